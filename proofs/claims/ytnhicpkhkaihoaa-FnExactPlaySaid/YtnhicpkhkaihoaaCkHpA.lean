/- A part of the proof. -/
import Derived.Test.YtnhicpkhkaihoaaCkLawHp
namespace Go.Proofs.Ytnhicpkhkaihoaa.P
open Go Go.Proofs.Ytnhicpkhkaihoaa Go.Proofs.Ytnhicpkhkaihoaa.Eng
set_option maxHeartbeats 4000000
set_option linter.unusedVariables false
set_option linter.unusedSimpArgs false
attribute [local irreducible] prP gP gE gF AU ixW ldc ldg ldl stc stg scW mkW apW BD cl2 BW FR DK
variable {w0:World}
def pick {α:Type} (f:Nat→List α):Nat→List α
 | 0=>[]
 | n+1=>pick f n++f n
theorem LD {α:Type} {f:Nat→List α} (h: ∀i,(f i).length≤1): ∀n,(pick f n).length≤n
 | 0=>Nat.le_refl _
 | n+1=>by have:=LD h n;have:=h n;simp only [pick,List.length_append];omega
def CQ (s g:Int):Int:=if (0≤s∧s≤7)∧1≤g∧g≤999 then s+8*g else -1
def AB (l:List AX) (id:Int):Int:=if id<8∨l.length≠8 then -1 else if (ob l (id % 8).toNat).live=true∧(ob l (id % 8).toNat).gen=id/8 then id % 8 else -1
theorem I6 {n lo hi:Int} {K:J2} (h:K [.bool (decide (lo≤n∧n≤hi))] []):cl2 ⟨Try.prog,w0⟩ 157 FK.sg [I n,I lo,I hi] [] K:=by
 refine FK.cl2 ?_
 unfold FK.txt
 repeat' (first | refine BZ ?_ | refine EF (by first | with_reducible assumption | omega) rfl ?_ | refine E9 (by first | with_reducible assumption | omega) rfl ?_ | refine HY ?_ | refine LY (fun _=> ?_) (fun _=> ?_))
 ·have e:decide (lo≤n∧n≤hi)=decide (n≤hi):=by rw [decide_eq_decide];omega
  rw [e] at h;exact h
 ·have e:decide (lo≤n∧n≤hi)=false:=decide_eq_false (by omega)
  rw [e] at h;exact h
theorem DW {n lo hi:Int} {K:J2} (h:K [.bool (decide (lo≤n∧n≤hi))] []):cl2 ⟨Try.prog,w0⟩ 154 B7.sg [I n,I lo,I hi] [] K:=by
 refine B7.cl2 ?_
 unfold B7.txt
 repeat' (first | refine BZ ?_ | refine EF (by first | with_reducible assumption | omega) rfl ?_ | refine E9 (by first | with_reducible assumption | omega) rfl ?_ | refine HY ?_ | refine LY (fun _=> ?_) (fun _=> ?_))
 ·have e:decide (lo≤n∧n≤hi)=decide (n≤hi):=by rw [decide_eq_decide];omega
  rw [e] at h;exact h
 ·have e:decide (lo≤n∧n≤hi)=false:=decide_eq_false (by omega)
  rw [e] at h;exact h
theorem MI {s g:Int} {K:J2} (h:K [I (CQ s g)] []):cl2 ⟨Try.prog,w0⟩ 84 GD.sg [I s,I g] [] K:=by
 refine GD.cl2 ?_
 unfold GD.txt
 repeat' (first | refine I6 ?_ | refine jR ⟨by omega,by omega⟩ ?_ | refine BZ ?_ | refine OS (by first | with_reducible assumption | omega) ?_ | refine JB (by first | with_reducible assumption | omega) ?_ | refine EF (by first | with_reducible assumption | omega) rfl ?_ | refine E9 (by first | with_reducible assumption | omega) rfl ?_ | refine B4 ?_ | refine DE ?_ | refine C1 ⟨by omega,by omega⟩ ?_ | refine AW (fun _=> ?_) (fun _=> ?_) | refine MP (fun _=> ?_) (fun _=> ?_))
 ·rw [CQ,if_neg (by omega)] at h;exact h
 ·rw [CQ,if_pos (by omega)] at h;exact h
 ·rw [CQ,if_neg (by omega)] at h;exact h
theorem KF {s g:Int} {K:J2} (h:K [I (CQ s g)] []):cl2 ⟨Try.prog,w0⟩ 79 EJ.sg [I s,I g] [] K:=by
 refine EJ.cl2 ?_
 unfold EJ.txt
 repeat' (first | refine DW ?_ | refine jR ⟨by omega,by omega⟩ ?_ | refine BZ ?_ | refine OS (by first | with_reducible assumption | omega) ?_ | refine JB (by first | with_reducible assumption | omega) ?_ | refine EF (by first | with_reducible assumption | omega) rfl ?_ | refine E9 (by first | with_reducible assumption | omega) rfl ?_ | refine B4 ?_ | refine DE ?_ | refine C1 ⟨by omega,by omega⟩ ?_ | refine AW (fun _=> ?_) (fun _=> ?_) | refine MP (fun _=> ?_) (fun _=> ?_))
 ·rw [CQ,if_neg (by omega)] at h;exact h
 ·rw [CQ,if_pos (by omega)] at h;exact h
 ·rw [CQ,if_neg (by omega)] at h;exact h
theorem NL {l:List AX} {id:Int} (h:id<8∨l.length≠8):AB l id= -1:=if_pos h
theorem OJ {l:List AX} {id:Int} (h1:8≤id) (h2:l.length=8) (hl:(id % 8).toNat<l.length) (h3:(ob l (id % 8).toNat).live=true) (h4:(ob l (id % 8).toNat).gen=id/8):AB l id=id % 8:=by
 rw [AB,if_neg (by omega),if_pos ⟨h3,h4⟩]
theorem N7 {l:List AX} {id:Int} (hl:(id % 8).toNat<l.length) (h:(ob l (id % 8).toNat).live=false∨(ob l (id % 8).toNat).gen≠id/8):AB l id= -1:=by
 rw [AB]
 split
 ·rfl
 ·rw [if_neg]
  rintro ⟨h1,h2⟩
  rcases h with h | h
  ·rw [h] at h1;cases h1
  ·exact h h2
theorem DA {a:List AX} {b c d:List T} {id:Int} {K:J2} (hid:F64 id) (hl:(a.length:Int)<2^62) (h:K [I (AB a id)] []):cl2 ⟨Try.prog,w0⟩ 92 BV.sg [I id] [tR tO a,b,c,d] K:=by
 obtain ⟨i1,i2⟩:=hid
 refine BV.cl2 ?_
 unfold BV.txt
 simp only [AI,AM,AP,AR,AT,AD,AH,AL,AK,AO,AQ,AJ,AS,AN,BE,BJ,BH,BK,BI,BG,BF,A1,AZ,A5,A7,A6,A4]
 repeat' (first | refine BZ ?_ | refine SD (by with_reducible assumption) ?_ | refine jD (by with_reducible assumption) ?_ | refine sN (by with_reducible assumption) rfl ?_ | refine vP (by with_reducible assumption) rfl ?_ | refine EF (by first | with_reducible assumption | omega) rfl ?_ | refine E9 (by first | with_reducible assumption | omega) rfl ?_ | refine B4 ?_ | refine AV ?_ | refine B6 ?_ | refine PW (by omega) (by omega) ?_ | refine hX (by omega) ⟨by omega,by omega⟩ (by omega) ?_ | refine TV (by omega) (by omega) ?_ | refine OZ (by omega) ?_ | refine AW (fun _=> ?_) (fun _=> ?_) | refine MP (fun _=> ?_) (fun _=> ?_) | refine nE (fun _=> ?_) (fun _=> ?_) | refine BY ?_)
 ·rw [NL (by omega)] at h;exact h
 ·rw [N7 (by omega) (.inr (by assumption))] at h;exact h
 ·rename_i e1 e2
  rw [OJ (by omega) (by omega) (by omega) (by simpa using e1) (by simpa using e2)] at h;exact h
 ·rename_i e1
  rw [N7 (by omega) (.inl (by simpa using e1))] at h;exact h
 ·rw [NL (by omega)] at h;exact h
theorem CJ {a:List AX} {b c d:List T} {id:Int} {K:J2} (hid:F64 id) (hl:(a.length:Int)<2^62) (h:K [I (AB a id)] []):cl2 ⟨Try.prog,w0⟩ 91 BQ.sg [I id] [tR tO a,b,c,d] K:=by
 obtain ⟨i1,i2⟩:=hid
 refine BQ.cl2 ?_
 unfold BQ.txt
 simp only [AI,AM,AP,AR,AT,AD,AH,AL,AK,AO,AQ,AJ,AS,AN,BE,BJ,BH,BK,BI,BG,BF,A1,AZ,A5,A7,A6,A4]
 repeat' (first | refine BZ ?_ | refine SD (by with_reducible assumption) ?_ | refine jD (by with_reducible assumption) ?_ | refine sN (by with_reducible assumption) rfl ?_ | refine vP (by with_reducible assumption) rfl ?_ | refine EF (by first | with_reducible assumption | omega) rfl ?_ | refine E9 (by first | with_reducible assumption | omega) rfl ?_ | refine B4 ?_ | refine AV ?_ | refine B6 ?_ | refine PW (by omega) (by omega) ?_ | refine hX (by omega) ⟨by omega,by omega⟩ (by omega) ?_ | refine TV (by omega) (by omega) ?_ | refine H0 (by omega) (by decide) rfl ?_ | refine K2 (by omega) rfl ?_ | refine AW (fun _=> ?_) (fun _=> ?_) | refine MP (fun _=> ?_) (fun _=> ?_) | refine nE (fun _=> ?_) (fun _=> ?_) | refine BY ?_)
 ·rw [NL (by omega)] at h;exact h
 ·rw [N7 (by omega) (.inr (by assumption))] at h;exact h
 ·rename_i e1 e2
  rw [OJ (by omega) (by omega) (by omega) (by simpa using e1) (by simpa using e2)] at h;exact h
 ·rename_i e1
  rw [N7 (by omega) (.inl (by simpa using e1))] at h;exact h
 ·rw [NL (by omega)] at h;exact h
end Go.Proofs.Ytnhicpkhkaihoaa.P
