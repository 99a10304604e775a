/- A part of the proof. -/
import Derived.Test.YtnhicpkhkaihoaaGreatFaLawHp
namespace Go.Proofs.YtnhicpkhkaihoaaGreat.P
open Go Go.Proofs.YtnhicpkhkaihoaaGreat Go.Proofs.YtnhicpkhkaihoaaGreat.Eng
set_option maxHeartbeats 4000000
set_option linter.unusedVariables false
set_option linter.unusedSimpArgs false
attribute [local irreducible] prP gP gE gF AU ixW ldc ldg ldl stc stg scW mkW apW BG cl2 BX GP CZ
variable {w0:World}
def pick {α:Type} (f:Nat→List α):Nat→List α
 | 0=>[]
 | n+1=>pick f n++f n
theorem NG {α:Type} {f:Nat→List α} (h: ∀i,(f i).length≤1): ∀n,(pick f n).length≤n
 | 0=>Nat.le_refl _
 | n+1=>by have:=NG h n;have:=h n;simp only [pick,List.length_append];omega
theorem eP {α:Type} {f:Nat→List α} {m:Nat} (h: ∀i,m≤i→f i=[]): ∀n,m≤n→pick f n=pick f m
 | 0,hn=>by rw [Nat.le_zero.1 hn]
 | n+1,hn=>by
   rcases Nat.lt_or_ge n m with h1 | h1
   ·rw [show n+1=m by omega]
   ·rw [pick,h n h1,List.append_nil,eP h n h1]
theorem uY {α:Type} {f:Nat→List α} {n:Nat} {l:List α} (h:f n=l):pick f n++l=pick f (n+1):=by rw [pick,h]
theorem rB {α:Type} {f:Nat→List α} {n:Nat} (h:f n=[]):pick f n=pick f (n+1):=by rw [pick,h,List.append_nil]
def C8 (s g:Int):Int:=if (0≤s∧s≤7)∧1≤g∧g≤999 then s+8*g else -1
def AD (l:List A7) (id:Int):Int:=if id<8∨l.length≠8 then -1 else if (ob l (id % 8).toNat).live=true∧(ob l (id % 8).toNat).gen=id/8 then id % 8 else -1
theorem GA {n lo hi:Int} {K:J2} (h:K [.bool (decide (lo≤n∧n≤hi))] []):cl2 ⟨Tryz.prog,w0⟩ 94 B7.sg [I n,I lo,I hi] [] K:=by
 refine B7.cl2 ?_
 unfold B7.txt
 repeat' (first | refine BM ?_ | refine CI (by first | with_reducible assumption | omega) rfl ?_ | refine CD (by first | with_reducible assumption | omega) rfl ?_ | refine DV ?_ | refine IG (fun _=> ?_) (fun _=> ?_))
 ·have e:decide (lo≤n∧n≤hi)=decide (n≤hi):=by rw [decide_eq_decide];omega
  rw [e] at h;exact h
 ·have e:decide (lo≤n∧n≤hi)=false:=decide_eq_false (by omega)
  rw [e] at h;exact h
theorem D6 {n lo hi:Int} {K:J2} (h:K [.bool (decide (lo≤n∧n≤hi))] []):cl2 ⟨Tryz.prog,w0⟩ 54 BQ.sg [I n,I lo,I hi] [] K:=by
 refine BQ.cl2 ?_
 unfold BQ.txt
 repeat' (first | refine BM ?_ | refine CI (by first | with_reducible assumption | omega) rfl ?_ | refine CD (by first | with_reducible assumption | omega) rfl ?_ | refine DV ?_ | refine IG (fun _=> ?_) (fun _=> ?_))
 ·have e:decide (lo≤n∧n≤hi)=decide (n≤hi):=by rw [decide_eq_decide];omega
  rw [e] at h;exact h
 ·have e:decide (lo≤n∧n≤hi)=false:=decide_eq_false (by omega)
  rw [e] at h;exact h
theorem NI {s g:Int} {K:J2} (h:K [I (C8 s g)] []):cl2 ⟨Tryz.prog,w0⟩ 168 F9.sg [I s,I g] [] K:=by
 refine F9.cl2 ?_
 unfold F9.txt
 repeat' (first | refine GA ?_ | refine KU ⟨by omega,by omega⟩ ?_ | refine BM ?_ | refine I8 (by first | with_reducible assumption | omega) ?_ | refine EP (by first | with_reducible assumption | omega) ?_ | refine CI (by first | with_reducible assumption | omega) rfl ?_ | refine CD (by first | with_reducible assumption | omega) rfl ?_ | refine BP ?_ | refine CP ?_ | refine B3 ⟨by omega,by omega⟩ ?_ | refine AG (fun _=> ?_) (fun _=> ?_) | refine F5 (fun _=> ?_) (fun _=> ?_))
 ·rw [C8,if_neg (by omega)] at h;exact h
 ·rw [C8,if_pos (by omega)] at h;exact h
 ·rw [C8,if_neg (by omega)] at h;exact h
theorem LH {s g:Int} {K:J2} (h:K [I (C8 s g)] []):cl2 ⟨Tryz.prog,w0⟩ 58 FH.sg [I s,I g] [] K:=by
 refine FH.cl2 ?_
 unfold FH.txt
 repeat' (first | refine D6 ?_ | refine KU ⟨by omega,by omega⟩ ?_ | refine BM ?_ | refine I8 (by first | with_reducible assumption | omega) ?_ | refine EP (by first | with_reducible assumption | omega) ?_ | refine CI (by first | with_reducible assumption | omega) rfl ?_ | refine CD (by first | with_reducible assumption | omega) rfl ?_ | refine BP ?_ | refine CP ?_ | refine B3 ⟨by omega,by omega⟩ ?_ | refine AG (fun _=> ?_) (fun _=> ?_) | refine F5 (fun _=> ?_) (fun _=> ?_))
 ·rw [C8,if_neg (by omega)] at h;exact h
 ·rw [C8,if_pos (by omega)] at h;exact h
 ·rw [C8,if_neg (by omega)] at h;exact h
theorem MP {l:List A7} {id:Int} (h:id<8∨l.length≠8):AD l id= -1:=if_pos h
theorem OI {l:List A7} {id:Int} (h1:8≤id) (h2:l.length=8) (hl:(id % 8).toNat<l.length) (h3:(ob l (id % 8).toNat).live=true) (h4:(ob l (id % 8).toNat).gen=id/8):AD l id=id % 8:=by
 rw [AD,if_neg (by omega),if_pos ⟨h3,h4⟩]
theorem LF {l:List A7} {id:Int} (hl:(id % 8).toNat<l.length) (h:(ob l (id % 8).toNat).live=false∨(ob l (id % 8).toNat).gen≠id/8):AD l id= -1:=by
 rw [AD]
 split
 ·rfl
 ·rw [if_neg]
  rintro ⟨h1,h2⟩
  rcases h with h | h
  ·rw [h] at h1;cases h1
  ·exact h h2
theorem DC {a:List A7} {b c d:List T} {id:Int} {K:J2} (hid:F64 id) (hl:(a.length:Int)<2^62) (h:K [I (AD a id)] []):cl2 ⟨Tryz.prog,w0⟩ 147 BY.sg [I id] [tR tO a,b,c,d] K:=by
 obtain ⟨i1,i2⟩:=hid
 refine BY.cl2 ?_
 unfold BY.txt
 simp only [AK,AS,AJ,AI,AM,AE,AH,AN,AO,AP,AL,AR,AT,AQ,BB,BE,BI,BH,BK,BJ,BF,AX,A4,AY,A1,AZ,A5]
 repeat' (first | refine BM ?_ | refine S4 (by with_reducible assumption) ?_ | refine gU (by with_reducible assumption) ?_ | refine rC (by with_reducible assumption) rfl ?_ | refine vT (by with_reducible assumption) rfl ?_ | refine CI (by first | with_reducible assumption | omega) rfl ?_ | refine CD (by first | with_reducible assumption | omega) rfl ?_ | refine BP ?_ | refine AV ?_ | refine B9 ?_ | refine JX (by omega) (by omega) ?_ | refine NY (by omega) ⟨by omega,by omega⟩ (by omega) ?_ | refine QU (by omega) (by omega) ?_ | refine OM (by omega) ?_ | refine AG (fun _=> ?_) (fun _=> ?_) | refine F5 (fun _=> ?_) (fun _=> ?_) | refine oZ (fun _=> ?_) (fun _=> ?_) | refine BU ?_)
 ·rw [MP (by omega)] at h;exact h
 ·rw [LF (by omega) (.inr (by assumption))] at h;exact h
 ·rename_i e1 e2
  rw [OI (by omega) (by omega) (by omega) (by simpa using e1) (by simpa using e2)] at h;exact h
 ·rename_i e1
  rw [LF (by omega) (.inl (by simpa using e1))] at h;exact h
 ·rw [MP (by omega)] at h;exact h
theorem DB {a:List A7} {b c d:List T} {id:Int} {K:J2} (hid:F64 id) (hl:(a.length:Int)<2^62) (h:K [I (AD a id)] []):cl2 ⟨Tryz.prog,w0⟩ 55 B6.sg [I id] [tR tO a,b,c,d] K:=by
 obtain ⟨i1,i2⟩:=hid
 refine B6.cl2 ?_
 unfold B6.txt
 simp only [AK,AS,AJ,AI,AM,AE,AH,AN,AO,AP,AL,AR,AT,AQ,BB,BE,BI,BH,BK,BJ,BF,AX,A4,AY,A1,AZ,A5]
 repeat' (first | refine BM ?_ | refine S4 (by with_reducible assumption) ?_ | refine gU (by with_reducible assumption) ?_ | refine rC (by with_reducible assumption) rfl ?_ | refine vT (by with_reducible assumption) rfl ?_ | refine CI (by first | with_reducible assumption | omega) rfl ?_ | refine CD (by first | with_reducible assumption | omega) rfl ?_ | refine BP ?_ | refine AV ?_ | refine B9 ?_ | refine JX (by omega) (by omega) ?_ | refine NY (by omega) ⟨by omega,by omega⟩ (by omega) ?_ | refine QU (by omega) (by omega) ?_ | refine J8 (by omega) (by decide) rfl ?_ | refine NA (by omega) rfl ?_ | refine AG (fun _=> ?_) (fun _=> ?_) | refine F5 (fun _=> ?_) (fun _=> ?_) | refine oZ (fun _=> ?_) (fun _=> ?_) | refine BU ?_)
 ·rw [MP (by omega)] at h;exact h
 ·rw [LF (by omega) (.inr (by assumption))] at h;exact h
 ·rename_i e1 e2
  rw [OI (by omega) (by omega) (by omega) (by simpa using e1) (by simpa using e2)] at h;exact h
 ·rename_i e1
  rw [LF (by omega) (.inl (by simpa using e1))] at h;exact h
 ·rw [MP (by omega)] at h;exact h
end Go.Proofs.YtnhicpkhkaihoaaGreat.P
