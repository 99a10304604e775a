/- A part of the proof. -/
import Derived.Test.YthapfcoajahegaaDoorReHpM
namespace Go.Proofs.YthapfcoajahegaaDoor.P
open Go Go.Proofs.YthapfcoajahegaaDoor Go.Proofs.YthapfcoajahegaaDoor.Eng
set_option linter.unusedVariables false
set_option maxHeartbeats 4000000
set_option linter.unusedVariables false
set_option linter.unusedSimpArgs false
attribute [local irreducible] prP gP gE gF AY ixW ldc ldg ldl stc stg scW mkW apW A6 cl2 BL C5 BX
variable {w0:World}
def W (os:List AD):List Int→Nat→Int
 | [],_=>0
 | x::l,i=>E os x.toNat i+W os l i
theorem s7 (os:List AD) (a b:List Int) (i:Nat):W os (a++b) i=W os a i+W os b i:=by
 induction a with
 | nil=>simp [W]
 | cons x a ih=>simp only [List.cons_append,W,ih];omega
structure Vw (row:List Int) (off:Nat) (todo:List Int):Prop where
 bd:off+todo.length≤row.length
 vw:(row.drop off).take todo.length=todo
theorem Vw.get {row todo:List Int} {off j:Nat} (h:Vw row off todo) (hj:j<todo.length):gI row (off+j)=gI todo j:=by
 have e:=congrArg (fun l=>l[j]?) h.vw
 simp only [List.getElem?_take,hj,if_true,List.getElem?_drop] at e
 unfold gI
 rw [List.getD_eq_getElem?_getD,List.getD_eq_getElem?_getD,e]
theorem Vw.new (todo:List Int):Vw todo 0 todo:=⟨by omega,by simp⟩
theorem hI {todo:List Int} (h:todo.length>0):todo=todo.dropLast++[gI todo (todo.length-1)]:=by
 have hne:todo≠[]:=fun he=>by rw [he] at h;simp at h
 have:=(List.dropLast_concat_getLast hne).symm
 rw [List.getLast_eq_getElem hne,G3 (by omega)] at this
 exact this
structure aD (os:List AD) (c m:Int) (cs0 col0:List Int) (s:Nat) (todo cs col:List Int):Prop where
 len:cs.length=8∧col.length=8
 f: ∀i,i<8→F64 (gI cs i)
 KL: ∀k,k<8→gI col0 k=c→gI col k=c
 only: ∀k,k<8→gI col k≠c→gI col k=gI col0 k
 got:gI col s=c
 td: ∀x∈todo,0≤x∧x.toNat<8∧gI col x.toNat=c∧gI col0 x.toNat≠c∧Reach os s x.toNat
 nd:todo.Nodup
 clo: ∀k,k<8→gI col k=c→gI col0 k≠c→Reach os s k∧((k:Int)∈todo∨ ∀j∈BA os k,gI col j.toNat=c)
 cnt: ∀i,i<8→gI cs i=w64 (gI cs0 i+m*(S os (isC col c) i-S os (isC col0 c) i-W os todo i))
 sz:todo.length+NC col c≤8
structure TA (os:List AD) (c m:Int) (cs0 col0:List Int) (s:Nat) (k j:Nat) (todo cs col:List Int):Prop where
 len:cs.length=8∧col.length=8
 f: ∀i,i<8→F64 (gI cs i)
 KL: ∀k,k<8→gI col0 k=c→gI col k=c
 only: ∀k,k<8→gI col k≠c→gI col k=gI col0 k
 got:gI col s=c
 td: ∀x∈todo,0≤x∧x.toNat<8∧gI col x.toNat=c∧gI col0 x.toNat≠c∧Reach os s x.toNat
 nd:todo.Nodup
 me:k<8∧Reach os s k
 clo: ∀x,x<8→x≠k→gI col x=c→gI col0 x≠c→Reach os s x∧((x:Int)∈todo∨ ∀j∈BA os x,gI col j.toNat=c)
 done: ∀x∈(BA os k).take j,gI col x.toNat=c
 cnt: ∀i,i<8→gI cs i=w64 (gI cs0 i+m*(S os (isC col c) i-S os (isC col0 c) i-W os todo i-(((BA os k).drop j).count (i:Int):Nat)))
 sz:todo.length+NC col c≤8
section
variable {os:List AD} {c m:Int} {cs0 col0 cs col todo:List Int} {s k j:Nat}
theorem aD.start (hs:s<8) (h1:cs0.length=8) (h2:col0.length=8) (hf: ∀i,i<8→F64 (gI cs0 i)) (h0:gI col0 s≠c):aD os c m cs0 col0 s [(s:Int)] cs0 (col0.set s c):=by
 have hkeep: ∀k,k<8→gI col0 k=c→gI (col0.set s c) k=c:=fun k hk h=>by rw [GM (by omega)];split <;> first | rfl | exact h
 have hgot:gI (col0.set s c) s=c:=by rw [GM (by omega)];simp
 refine ⟨⟨h1,by simpa using h2⟩,hf,hkeep,fun k hk h=> ?_,hgot,fun x hx=> ?_,by simp,fun k hk h3 h4=> ?_,fun i hi=> ?_, ?_⟩
 ·rw [GM (by omega)] at h ⊢;split
  ·rename_i hh;rw [if_pos hh] at h;exact absurd rfl h
  ·rfl
 ·have hx:x=(s:Int):=by simpa using hx
  subst hx
  rw [Int.toNat_natCast]
  exact ⟨by omega,hs,hgot,h0, .refl⟩
 ·rw [GM (by omega)] at h3
  by_cases hh:k=s
  ·subst hh;exact ⟨.refl, .inl (by simp)⟩
  ·rw [if_neg hh] at h3;exact absurd h3 h4
 ·have e:=jE (os:=os) (P:=isC col0 c) (Q:=isC (col0.set s c) c) (i:=i) hs (by simp [isC,h0]) (by rw [P4 (by omega)];simp) fun k hk hne=>by rw [P4 (by omega)];simp [hne]
  simp only [W,Int.toNat_natCast]
  rw [e]
  have e2:S os (isC col0 c) i+E os s i-S os (isC col0 c) i-(E os s i+0)=0:=by omega
  rw [e2,Int.mul_zero,Int.add_zero,JU (hf i hi)]
 ·have:=OD hs h0 hgot hkeep
  have:=SE col0 c
  simp only [List.length_singleton];omega
theorem aD.stop (h:aD os c m cs0 col0 s [] cs col):L8 os c m cs0 col0 cs col s:=
 ⟨h.len,h.f,h.KL,h.only,h.got,fun k hk h3 h4=>⟨(h.clo k hk h3 h4).1,(h.clo k hk h3 h4).2.resolve_left (by simp)⟩,fun i hi=>by have:=h.cnt i hi;simp only [W,Int.sub_zero] at this;exact this⟩
theorem TA.stop (h:TA os c m cs0 col0 s k (BA os k).length todo cs col):aD os c m cs0 col0 s todo cs col:=by
 refine ⟨h.len,h.f,h.KL,h.only,h.got,h.td,h.nd,fun x hx h3 h4=> ?_,fun i hi=> ?_,h.sz⟩
 ·by_cases hk:x=k
  ·subst hk
   exact ⟨h.me.2, .inr fun y hy=>h.done y (by rw [List.take_length];exact hy)⟩
  ·exact h.clo x hx hk h3 h4
 ·have:=h.cnt i hi
  simp only [List.drop_length,List.count_nil] at this
  rw [this];simp
theorem ZS {l:List Int} {j i:Nat} {x:Nat} (hj:j<l.length) (hx:gI l j=(x:Int)):((l.drop j).count (i:Int):Int)=(if i=x then 1 else 0)+((l.drop (j+1)).count (i:Int):Int):=by
 rw [drop_cons hj,List.count_cons,hx]
 by_cases hh:i=x
 ·have:((x:Int)==(i:Int))=true:=by simp;omega
  rw [if_pos hh,this];simp;omega
 ·have:((x:Int)==(i:Int))=false:=by simp;omega
  rw [if_neg hh,this];simp
theorem TA.old (h:TA os c m cs0 col0 s k j todo cs col) (hj:j<(BA os k).length) {x:Nat} (hx:gI (BA os k) j=(x:Int)) (hc:gI col x=c):TA os c m cs0 col0 s k (j+1) todo (cs.set x (w64 (gI cs x+m))) col:=by
 have x8:x<8:=by have:=(B2 (JH hj)).2.1;rw [hx] at this;simpa using this
 have hl:=h.len
 refine ⟨⟨by simpa using hl.1,hl.2⟩,fun i hi=> ?_,h.KL,h.only,h.got,h.td,h.nd,h.me,h.clo,fun y hy=> ?_,fun i hi=> ?_,h.sz⟩
 ·rw [GM (by omega)];split
  ·exact iM _
  ·exact h.f i hi
 ·rw [List.take_succ_eq_append_getElem hj,List.mem_append,List.mem_singleton] at hy
  rcases hy with hy | rfl
  ·exact h.done y hy
  ·rw [G3 hj,hx,Int.toNat_natCast];exact hc
 ·rw [GM (by omega)]
  have e2:=h.cnt i hi
  have e3:=ZS (i:=i) hj hx
  by_cases hh:i=x
  ·rw [if_pos hh, ←hh,e2,M6]
   rw [if_pos hh] at e3
   congr 1
   rw [e3]
   generalize S os (isC col c) i=a
   generalize S os (isC col0 c) i=b
   generalize W os todo i=d
   generalize ((List.drop (j+1) (BA os k)).count (i:Int):Int)=e
   simp only [Int.mul_sub,Int.mul_add,Int.mul_one];omega
  ·rw [if_neg hh,e2]
   rw [if_neg hh] at e3
   rw [e3,Int.zero_add]
theorem TA.new (h:TA os c m cs0 col0 s k j todo cs col) (hj:j<(BA os k).length) {x:Nat} (hx:gI (BA os k) j=(x:Int)) (hc:gI col x≠c):TA os c m cs0 col0 s k (j+1) (todo++[(x:Int)]) (cs.set x (w64 (gI cs x+m))) (col.set x c):=by
 have x8:x<8:=by have:=(B2 (JH hj)).2.1;rw [hx] at this;simpa using this
 have hl:=h.len
 have hgot:gI (col.set x c) x=c:=by rw [GM (by omega)];simp
 have kp: ∀y,gI col y=c→gI (col.set x c) y=c:=fun y hy=>by rw [GM (by omega)];split <;> first | rfl | exact hy
 have hrx:Reach os s x:=by have:=Reach.step h.me.2 (JH hj);rw [hx] at this;simpa using this
 have h0x:gI col0 x≠c:=fun he=>hc (h.KL x x8 he)
 refine ⟨⟨by simpa using hl.1,by simpa using hl.2⟩,fun i hi=> ?_,fun y hy he=>kp y (h.KL y hy he),fun y hy he=> ?_,kp s h.got,fun y hy=> ?_, ?_,h.me,fun y hy hne h3 h4=> ?_,fun y hy=> ?_,fun i hi=> ?_, ?_⟩
 ·rw [GM (by omega)];split
  ·exact iM _
  ·exact h.f i hi
 ·rw [GM (by omega)] at he ⊢
  split
  ·rename_i hh;rw [if_pos hh] at he;exact absurd rfl he
  ·rename_i hh;rw [if_neg hh] at he;exact h.only y hy he
 ·rw [List.mem_append,List.mem_singleton] at hy
  rcases hy with hy | rfl
  ·obtain ⟨a1,a2,a3,a4,a5⟩:=h.td y hy
   exact ⟨a1,a2,kp _ a3,a4,a5⟩
  ·rw [Int.toNat_natCast]
   exact ⟨by omega,x8,hgot,h0x,hrx⟩
 ·rw [List.nodup_append]
  refine ⟨h.nd,by simp,fun a ha b hb=> ?_⟩
  have hb:b=(x:Int):=by simpa using hb
  subst hb
  intro he
  subst he
  exact hc (by have:=(h.td _ ha).2.2.1;rwa [Int.toNat_natCast] at this)
 ·by_cases hyx:y=x
  ·subst hyx;exact ⟨hrx, .inl (by simp)⟩
  ·rw [GM (by omega),if_neg hyx] at h3
   obtain ⟨g1,g2⟩:=h.clo y hy hne h3 h4
   exact ⟨g1,g2.elim (fun g=> .inl (List.mem_append_left _ g)) fun g=> .inr fun z hz=>kp _ (g z hz)⟩
 ·rw [List.take_succ_eq_append_getElem hj,List.mem_append,List.mem_singleton] at hy
  rcases hy with hy | rfl
  ·exact kp _ (h.done y hy)
  ·rw [G3 hj,hx,Int.toNat_natCast];exact hgot
 ·rw [GM (by omega)]
  have e2:=h.cnt i hi
  have e3:=ZS (i:=i) hj hx
  have e:=jE (os:=os) (P:=isC col c) (Q:=isC (col.set x c) c) (i:=i) x8 (by simp [isC,hc]) (by rw [P4 (by omega)];simp) fun k hk hne=>by rw [P4 (by omega)];simp [hne]
  have ew:W os (todo++[(x:Int)]) i=W os todo i+E os x i:=by rw [s7];simp [W]
  rw [e,ew]
  by_cases hh:i=x
  ·rw [if_pos hh, ←hh,e2,M6]
   rw [if_pos hh] at e3
   congr 1
   rw [e3,hh]
   generalize S os (isC col c) x=a
   generalize S os (isC col0 c) x=b
   generalize W os todo x=d
   generalize E os x x=g
   generalize ((List.drop (j+1) (BA os k)).count (x:Int):Int)=e
   have:a+g-b-(d+g)-e=a-b-d-(1+e)+1:=by omega
   rw [this,Int.mul_add,Int.mul_one];omega
  ·rw [if_neg hh,e2]
   rw [if_neg hh] at e3
   rw [e3]
   congr 3
   omega
 ·have:=OD (c:=c) x8 hc hgot fun y _ hy=>kp y hy
  have:=h.sz
  simp only [List.length_append,List.length_singleton];omega
end
end Go.Proofs.YthapfcoajahegaaDoor.P
namespace Go.Proofs.YthapfcoajahegaaDoor.P
open Go Go.Proofs.YthapfcoajahegaaDoor Go.Proofs.YthapfcoajahegaaDoor.Eng
set_option linter.unusedVariables false
set_option maxHeartbeats 4000000
set_option linter.unusedVariables false
set_option linter.unusedSimpArgs false
attribute [local irreducible] prP gP gE gF AY ixW ldc ldg ldl stc stg scW mkW apW A6 cl2 BL C5 BX
variable {w0:World}
theorem NR {a b:List Int} {K:J2} (h1:a.length≤100) (h2:b.length≤100) (h:K [] [tI a,tI b]):cl2 ⟨Tryd.prog,w0⟩ 41 DT.sg [] [tI a,tI b] K:=by
 refine DT.cl2 ?_
 unfold DT.txt
 exact IL (by omega) (IL (by omega) h)
theorem QQ {os:List AD} {b c d:List T} {cs col:List Int} {id:Int} {K:J2} (hol:os.length=8) (h1:cs.length=8) (h2:col.length=8) (hno:AA os id<0→K [.bool false] []) (hyes:0≤AA os id→K [.bool true] []):cl2 ⟨Tryd.prog,w0⟩ 42 GJ.sg [I (AA os id)] [tR tO os,b,c,d,tI cs,tI col] K:=by
 refine GJ.cl2 ?_
 unfold GJ.txt
 simp only [AM,AS,AW,AU,AO,AI,AJ,AQ,AK,AP,AN,AR,AL,AV,CF,CQ,CO,CT,CL,CN,CP,BD,BE,BG,BH,BJ,BF]
 refine B8 ?_
 have e1:(os.length:Int)=8:=by omega
 have e2:(cs.length:Int)=8:=by omega
 have e3:(col.length:Int)=8:=by omega
 by_cases hs:AA os id<0
 ·have:=hno hs
  repeat' (first | refine JZ ?_ | refine IQ ?_ | refine KN ?_ | refine JK ?_ | refine H0 ?_ | refine H4 ?_ | refine HZ ?_ | refine FZ ?_ | refine FV ?_ | refine FO ?_ | refine FN ?_ | refine HK (by first | with_reducible assumption | omega) ?_ | refine HI (by first | with_reducible assumption | omega) ?_ | refine FD (by first | with_reducible assumption | omega) ?_ | refine FC (by first | with_reducible assumption | omega) ?_ | refine HC (by with_reducible assumption) ?_ | refine HB (by with_reducible assumption) ?_ | refine EW (by with_reducible assumption) ?_ | refine FF (by with_reducible assumption) ?_ | refine HV ?_ | refine H3 ?_ | refine HW ?_ | refine HG ?_ | refine HA (by first | with_reducible assumption | omega) ?_ | refine HN (by first | with_reducible assumption | omega) ?_ | refine HY (by first | with_reducible assumption | omega) ?_ | refine GV (by first | with_reducible assumption | omega) ?_ | refine GD (by with_reducible assumption) ?_ | refine DO (by with_reducible assumption) ?_ | refine DM (by with_reducible assumption) ?_ | refine J8 (by with_reducible assumption) rfl ?_ | refine KI (by with_reducible assumption) rfl ?_ | refine JT (by first | with_reducible assumption | omega) rfl ?_ | refine JJ (by first | with_reducible assumption | omega) rfl ?_ | refine KO rfl ?_ | refine KH rfl ?_ | refine EC ?_ | refine DI ?_ | refine BW (by first | with_reducible assumption | omega) ?_ | refine CW (by first | with_reducible assumption | omega) ?_ | refine DG (by with_reducible assumption) ?_ | refine B5 (by with_reducible assumption) ?_ | refine A4 ?_ | refine CZ ?_ | refine CX ?_ | refine C0 ?_ | refine B8 ?_ | refine CB ?_ | refine BU ?_ | refine BY ?_ | refine DH ?_ | refine AZ (by omega) ?_ | refine CC ⟨by omega,by omega⟩ ?_ | refine C8 ⟨by omega,by omega⟩ ?_ | refine BV ?_ | refine B6 ?_ | refine C2 (by omega) (by omega) ?_ | refine DP (by omega) ⟨by omega,by omega⟩ (by omega) ?_ | refine B7 ?_ | refine CE ?_ | refine CD (by first | omega | (simp only [ByteArray.size_append];omega)) ?_ | refine DN ?_ | refine DR ?_ | refine A5 (by omega) ?_ | refine H2 (by omega) (by omega) ?_ | refine ldI (by omega) ?_ | refine ldS (by omega) ?_ | refine EG (by omega) ?_ | refine EY (by omega) ?_ | refine FB (by omega) ?_ | refine FL (by omega) ?_ | refine FT (by omega) ?_ | refine EP (by omega) (by decide) rfl ?_ | refine C9 (by omega) rfl ?_ | refine F4 (by omega) (by decide) rfl ?_ | refine C4 (by omega) rfl ?_ | refine FY (by omega) (by decide) rfl ?_ | refine DL (by omega) rfl ?_ | refine FP (by omega) (by decide) rfl ?_ | refine DD (by omega) rfl ?_ | refine FU (by omega) (by decide) rfl ?_ | refine DK (by omega) rfl ?_ | refine EE (by omega) (by omega) ?_ | refine FW (by omega) ?_ | refine F5 (by omega) (by omega) ?_ | refine FR (by omega) ?_ | refine FJ (by omega) (by omega) ?_ | refine FK (by omega) ?_ | refine EB (by omega) rfl rfl ?_ | refine EF (by omega) ?_ | refine ER (by omega) ?_ | refine DV (by omega) (by decide) rfl ?_ | refine CI (by omega) rfl ?_ | refine D5 (by first | exact DB _ | exact DC _ | exact DA _ | exact DQ _ | rfl) (by omega) ?_ | refine G4 (by omega) ?_ | refine A8 (fun _=> ?_) (fun _=> ?_) | refine HU rfl rfl (fun _=> ?_) (fun _=> ?_) | refine HT rfl rfl (fun _=> ?_) (fun _=> ?_) | refine FM (fun _=> ?_) (fun _=> ?_) | refine FI (fun _=> ?_) (fun _=> ?_) | refine G5 (fun _=> ?_) (fun _=> ?_) | refine HS (fun _=> ?_) (fun _=> ?_) | refine ES (fun _=> ?_) (fun _=> ?_) | refine HF (fun _=> ?_) (fun _=> ?_) | refine HM (fun _=> ?_) (fun _=> ?_) | refine CJ ?_ | simp only [AM,AS,AW,AU,AO,AI,AJ,AQ,AK,AP,AN,AR,AL,AV,CF,CQ,CO,CT,CL,CN,CP,BD,BE,BG,BH,BJ,BF])
  all_goals first | exact this | omega
 ·have:=hyes (by omega)
  have hk:=A7 (l:=os) (id:=id) (by omega)
  obtain ⟨k,hkk⟩: ∃k,(AA os id).toNat=k:=⟨_,rfl⟩
  have hkI:AA os id=(k:Int):=by omega
  rw [hkk] at hk
  rw [hkI]
  have hkl:k<os.length:=by omega
  repeat' (first | refine C9 (v:= .bool true) hkl (by simp [tO,hk.2.2.2.2.1]) ?_ | refine JZ ?_ | refine IQ ?_ | refine KN ?_ | refine JK ?_ | refine H0 ?_ | refine H4 ?_ | refine HZ ?_ | refine FZ ?_ | refine FV ?_ | refine FO ?_ | refine FN ?_ | refine HK (by first | with_reducible assumption | omega) ?_ | refine HI (by first | with_reducible assumption | omega) ?_ | refine FD (by first | with_reducible assumption | omega) ?_ | refine FC (by first | with_reducible assumption | omega) ?_ | refine HC (by with_reducible assumption) ?_ | refine HB (by with_reducible assumption) ?_ | refine EW (by with_reducible assumption) ?_ | refine FF (by with_reducible assumption) ?_ | refine HV ?_ | refine H3 ?_ | refine HW ?_ | refine HG ?_ | refine HA (by first | with_reducible assumption | omega) ?_ | refine HN (by first | with_reducible assumption | omega) ?_ | refine HY (by first | with_reducible assumption | omega) ?_ | refine GV (by first | with_reducible assumption | omega) ?_ | refine GD (by with_reducible assumption) ?_ | refine DO (by with_reducible assumption) ?_ | refine DM (by with_reducible assumption) ?_ | refine J8 (by with_reducible assumption) rfl ?_ | refine KI (by with_reducible assumption) rfl ?_ | refine JT (by first | with_reducible assumption | omega) rfl ?_ | refine JJ (by first | with_reducible assumption | omega) rfl ?_ | refine KO rfl ?_ | refine KH rfl ?_ | refine EC ?_ | refine DI ?_ | refine BW (by first | with_reducible assumption | omega) ?_ | refine CW (by first | with_reducible assumption | omega) ?_ | refine DG (by with_reducible assumption) ?_ | refine B5 (by with_reducible assumption) ?_ | refine A4 ?_ | refine CZ ?_ | refine CX ?_ | refine C0 ?_ | refine B8 ?_ | refine CB ?_ | refine BU ?_ | refine BY ?_ | refine DH ?_ | refine AZ (by omega) ?_ | refine CC ⟨by omega,by omega⟩ ?_ | refine C8 ⟨by omega,by omega⟩ ?_ | refine BV ?_ | refine B6 ?_ | refine C2 (by omega) (by omega) ?_ | refine DP (by omega) ⟨by omega,by omega⟩ (by omega) ?_ | refine B7 ?_ | refine CE ?_ | refine CD (by first | omega | (simp only [ByteArray.size_append];omega)) ?_ | refine DN ?_ | refine DR ?_ | refine A5 (by omega) ?_ | refine H2 (by omega) (by omega) ?_ | refine ldI (by omega) ?_ | refine ldS (by omega) ?_ | refine EG (by omega) ?_ | refine EY (by omega) ?_ | refine FB (by omega) ?_ | refine FL (by omega) ?_ | refine FT (by omega) ?_ | refine EP (by omega) (by decide) rfl ?_ | refine C9 (by omega) rfl ?_ | refine F4 (by omega) (by decide) rfl ?_ | refine C4 (by omega) rfl ?_ | refine FY (by omega) (by decide) rfl ?_ | refine DL (by omega) rfl ?_ | refine FP (by omega) (by decide) rfl ?_ | refine DD (by omega) rfl ?_ | refine FU (by omega) (by decide) rfl ?_ | refine DK (by omega) rfl ?_ | refine EE (by omega) (by omega) ?_ | refine FW (by omega) ?_ | refine F5 (by omega) (by omega) ?_ | refine FR (by omega) ?_ | refine FJ (by omega) (by omega) ?_ | refine FK (by omega) ?_ | refine EB (by omega) rfl rfl ?_ | refine EF (by omega) ?_ | refine ER (by omega) ?_ | refine DV (by omega) (by decide) rfl ?_ | refine CI (by omega) rfl ?_ | refine D5 (by first | exact DB _ | exact DC _ | exact DA _ | exact DQ _ | rfl) (by omega) ?_ | refine G4 (by omega) ?_ | refine A8 (fun _=> ?_) (fun _=> ?_) | refine HU rfl rfl (fun _=> ?_) (fun _=> ?_) | refine HT rfl rfl (fun _=> ?_) (fun _=> ?_) | refine FM (fun _=> ?_) (fun _=> ?_) | refine FI (fun _=> ?_) (fun _=> ?_) | refine G5 (fun _=> ?_) (fun _=> ?_) | refine HS (fun _=> ?_) (fun _=> ?_) | refine ES (fun _=> ?_) (fun _=> ?_) | refine HF (fun _=> ?_) (fun _=> ?_) | refine HM (fun _=> ?_) (fun _=> ?_) | refine CJ ?_ | simp only [AM,AS,AW,AU,AO,AI,AJ,AQ,AK,AP,AN,AR,AL,AV,CF,CQ,CO,CT,CL,CN,CP,BD,BE,BG,BH,BJ,BF])
  all_goals first | exact this | omega
end Go.Proofs.YthapfcoajahegaaDoor.P
namespace Go.Proofs.YthapfcoajahegaaDoor.P
open Go Go.Proofs.YthapfcoajahegaaDoor Go.Proofs.YthapfcoajahegaaDoor.Eng
set_option linter.unusedVariables false
set_option maxHeartbeats 4000000
set_option linter.unusedVariables false
set_option linter.unusedSimpArgs false
attribute [local irreducible] prP gP gE gF AY ixW ldc ldg ldl stc stg scW mkW apW A6 cl2 BL C5 BX
variable {w0:World}
theorem TE {os:List AD} {b c' d:List T} {cs col:List Int} {id:Int} {K:J2} (hol:os.length=8) (hof: ∀o∈os,OF o) (h1:cs.length=8) (h2:col.length=8) (hf: ∀i,i<8→F64 (gI cs i)) (hno:AA os id<0→K [] [tI cs,tI col]) (h: ∀s:Nat,AA os id=s→s<8→ ∀cs' col',L8 os 1 (-1) cs col cs' col' s→K [] [tI cs',tI col']):cl2 ⟨Tryd.prog,w0⟩ 31 GC.sg [I (AA os id)] [tR tO os,b,c',d,tI cs,tI col] K:=by
 refine GC.cl2 ?_
 unfold GC.txt
 refine NR (by omega) (by omega) (HH (QQ hol h1 h2 (fun hs=>DI (hno hs)) fun hs=>EC ?_))
 have hk:=A7 hs
 obtain ⟨s,hss⟩: ∃s,(AA os id).toNat=s:=⟨_,rfl⟩
 have hsI:AA os id=(s:Int):=by omega
 have hs:s<8:=hss ▸ hk.2.2.2.1
 rw [hsI]
 exact RO hol hof ⟨by omega,by omega⟩ ⟨by omega,by omega⟩ 8 (SE _ _) hs h1 h2 hf fun cs' col' p=>h s hsI hs _ _ p
def EX (os:List AD) (ct:Nat→Int) (C:Nat→Bool) (x:Nat):Prop:=w64 (ct x-S os C x)>0
structure SN (os:List AD) (ct:Nat→Int) (C:Nat→Bool) (cs col:List Int):Prop where
 len:cs.length=8∧col.length=8
 f: ∀i,i<8→F64 (gI cs i)
 rng: ∀k,k<8→gI col k=0∨gI col k=1∨gI col k=2
 out: ∀k,k<8→C k=false→gI col k=0
 cnt: ∀i,i<8→gI cs i=w64 (ct i-S os (fun k=> !isC col 0 k) i)
 blk: ∀k,k<8→C k=true→gI col k=0→(∃x,x<8∧C x=true∧EX os ct C x∧Reach os x k)∧ ∀j∈BA os k,gI col j.toNat=0
 wht: ∀k,k<8→gI col k=2→ ¬EX os ct C k
structure R0 (os:List AD) (ct:Nat→Int) (C:Nat→Bool) (col cs' col':List Int) (s:Nat):Prop where
 si:SN os ct C cs' col'
 ng: ∀k,k<8→gI col k≠1→gI col' k≠1
 got:gI col' s≠1
 wk: ∀k,k<8→gI col' k=2→gI col k=2∨ ∀j∈BA os k,gI col' j.toNat≠1
section
variable {os:List AD} {ct:Nat→Int} {C:Nat→Bool} {cs col cs' col':List Int} {s:Nat}
theorem SN.tM (h:SN os ct C cs col) (hs:s<8) (hg:gI col s=1):gI cs s>0↔EX os ct C s:=by
 have e:S os (fun k=> !isC col 0 k) s=S os C s:=by
  refine LI fun b hb=> ?_
  by_cases h0:gI col b=0
  ·have e1:isC col 0 b=true:=by simp [isC,h0]
   simp only [e1]
   cases hc:C b with
   | false=>simp
   | true=>
     have e2:E os b s=0:=pZ fun hm=>by
      have:=(h.blk b hb hc h0).2 _ hm
      rw [Int.toNat_natCast,hg] at this;omega
     simp [e2]
  ·have e1:isC col 0 b=false:=by simp [isC,h0]
   simp only [e1]
   cases hc:C b with
   | false=>exact absurd (h.out b hb hc) h0
   | true=>simp
 rw [h.cnt s hs,e];rfl
theorem SN.inC (h:SN os ct C cs col) (hs:s<8) (hg:gI col s≠0):C s=true:=by
 cases hc:C s with
 | false=>exact absurd (h.out s hs hc) hg
 | true=>rfl
theorem SN.black (h:SN os ct C cs col) (hs:s<8) (hg:gI col s=1) (he:EX os ct C s) (p:L8 os 0 1 cs col cs' col' s):R0 os ct C col cs' col' s:=by
 refine ⟨⟨p.len,p.f,fun k hk=> ?_,fun k hk hc=>p.KL k hk (h.out k hk hc),fun i hi=> ?_,fun k hk hc h0=> ?_,fun k hk h2=> ?_⟩,fun k hk h1=> ?_,by rw [p.got];decide,fun k hk h2=> .inl ?_⟩
 ·by_cases h0:gI col' k=0
  ·exact .inl h0
  ·rw [p.only k hk h0];exact h.rng k hk
 ·rw [p.cnt i hi,h.cnt i hi,M6]
  congr 1
  have e1:=YX (os:=os) (P:=isC col' 0) (i:=i)
  have e2:=YX (os:=os) (P:=isC col 0) (i:=i)
  omega
 ·by_cases h3:gI col k=0
  ·obtain ⟨g1,g2⟩:=h.blk k hk hc h3
   exact ⟨g1,fun j hj=>p.KL _ (B2 hj).2.1 (g2 j hj)⟩
  ·obtain ⟨g1,g2⟩:=p.clo k hk h0 h3
   exact ⟨⟨s,hs,h.inC hs (by omega),he,g1⟩,g2⟩
 ·have:=p.only k hk (by omega)
  exact h.wht k hk (by omega)
 ·by_cases h0:gI col' k=0
  ·omega
  ·rw [p.only k hk h0];exact h1
 ·have:=p.only k hk (by omega)
  omega
theorem SN.mD (h:SN os ct C cs col) (hs:s<8) (hg:gI col s=1) (he: ¬EX os ct C s):SN os ct C cs (col.set s 2):=by
 have hl:=h.len
 have e: ∀k,gI (col.set s 2) k=if k=s then 2 else gI col k:=fun k=>GM (by omega)
 refine ⟨⟨hl.1,by simpa using hl.2⟩,h.f,fun k hk=> ?_,fun k hk hc=> ?_,fun i hi=> ?_,fun k hk hc h0=> ?_,fun k hk h2=> ?_⟩
 ·rw [e];split
  ·exact .inr (.inr rfl)
  ·exact h.rng k hk
 ·rw [e];split
  ·rename_i hks;subst hks;have:=h.out k hk hc;omega
  ·exact h.out k hk hc
 ·rw [h.cnt i hi]
  congr 2
  refine eR fun k hk=> ?_
  simp only [isC,e]
  split
  ·rename_i hks;subst hks;simp [hg]
  ·rfl
 ·rw [e] at h0
  split at h0
  ·omega
  ·obtain ⟨g1,g2⟩:=h.blk k hk hc h0
   refine ⟨g1,fun j hj=> ?_⟩
   rw [e];split
   ·rename_i hjs;have:=g2 j hj;rw [hjs] at this;omega
   ·exact g2 j hj
 ·rw [e] at h2
  split at h2
  ·rename_i hks;subst hks;exact he
  ·exact h.wht k hk h2
theorem SN.same (h:SN os ct C cs col) (hg:gI col s≠1):R0 os ct C col cs col s:=⟨h,fun _ _ h=>h,hg,fun _ _ h=> .inl h⟩
end
structure OY (os:List AD) (ct:Nat→Int) (C:Nat→Bool) (col:List Int) (s:Nat) (q:Nat×List Int×List Int):Prop where
 j:q.1≤(BA os s).length
 si:SN os ct C q.2.1 q.2.2
 ng: ∀k,k<8→gI col k≠1∨k=s→gI q.2.2 k≠1
 wk: ∀k,k<8→k≠s→gI q.2.2 k=2→gI col k=2∨ ∀j∈BA os k,gI q.2.2 j.toNat≠1
 done: ∀x∈(BA os s).take q.1,gI q.2.2 x.toNat≠1
section
variable {os:List AD} {ct:Nat→Int} {C:Nat→Bool} {cs col cs1 col1 cs2 col2:List Int} {s j:Nat}
theorem OY.start (h:SN os ct C cs col) (hs:s<8) (hg:gI col s=1) (he: ¬EX os ct C s):OY os ct C col s (0,cs,col.set s 2):=by
 have hl:=h.len
 have e: ∀k,gI (col.set s 2) k=if k=s then 2 else gI col k:=fun k=>GM (by omega)
 refine ⟨Nat.zero_le _,h.mD hs hg he,fun k hk hh=> ?_,fun k hk hne h2=> ?_,fun x hx=>by simp at hx⟩
 ·simp only;rw [e];split
  ·decide
  ·rename_i hh2;exact hh.resolve_right hh2
 ·simp only at h2;rw [e,if_neg hne] at h2;exact .inl h2
theorem OY.step (h:OY os ct C col s (j,cs1,col1)) (hj:j<(BA os s).length) (p:R0 os ct C col1 cs2 col2 (gI (BA os s) j).toNat):OY os ct C col s (j+1,cs2,col2):=by
 refine ⟨by simp only;omega,p.si,fun k hk hh=>p.ng k hk (h.ng k hk hh),fun k hk hne h2=> ?_,fun x hx=> ?_⟩
 ·rcases p.wk k hk h2 with h3 | h3
  ·exact (h.wk k hk hne h3).imp_right fun g y hy=>p.ng _ (B2 hy).2.1 (g y hy)
  ·exact .inr h3
 ·simp only at hx ⊢
  rw [List.take_succ_eq_append_getElem hj,List.mem_append,List.mem_singleton] at hx
  rcases hx with hx | rfl
  ·exact p.ng _ (B2 (List.mem_of_mem_take hx)).2.1 (h.done x hx)
  ·rw [G3 hj];exact p.got
theorem OY.stop (hs:s<8) (h:OY os ct C col s ((BA os s).length,cs1,col1)):R0 os ct C col cs1 col1 s:=by
 refine ⟨h.si,fun k hk hh=>h.ng k hk (.inl hh),h.ng s hs (.inr rfl),fun k hk h2=> ?_⟩
 by_cases hks:k=s
 ·subst hks
  exact .inr fun y hy=>h.done y (by simp only;rw [List.take_length];exact hy)
 ·exact h.wk k hk hks h2
end
theorem aV {os:List AD} {b c' d:List T} {ct:Nat→Int} {C:Nat→Bool} (hol:os.length=8) (hof: ∀o∈os,OF o): ∀(n:Nat) {cs col:List Int} {s:Nat} {K:J2},8-NC col 1≤n→s<8→SN os ct C cs col→(∀cs' col',R0 os ct C col cs' col' s→K [] [tI cs',tI col'])→cl2 ⟨Tryd.prog,w0⟩ 44 B4.sg [I s] [tI cs,tI col,tR tO os,b,c',d] K:=by
 intro n
 induction n with
 | zero=>
   intro cs col s K hn hs si h
   have hl:=si.len
   have:gI col s≠1:=fun hg=>by
    have:=OD (a:=col.set s 2) (b:=col) (c:=1) hs (by rw [GM (by omega)];simp) hg fun k hk hh=>by
     rw [GM (by omega)] at hh
     split at hh
     ·omega
     ·exact hh
    have:=SE (col.set s 2) 1
    omega
   refine B4.cl2 ?_
   unfold B4.txt
   simp only [AM,AS,AW,AU,AO,AI,AJ,AQ,AK,AP,AN,AR,AL,AV,CF,CQ,CO,CT,CL,CN,CP,BD,BE,BG,BH,BJ,BF]
   refine A5 (by omega) (ldI (by omega) (CB (BW this (h _ _ (si.same this)))))
 | succ n ih=>
   intro cs col s K hn hs si h
   have hl:=si.len
   refine B4.cl2 ?_
   unfold B4.txt
   simp only [AM,AS,AW,AU,AO,AI,AJ,AQ,AK,AP,AN,AR,AL,AV,CF,CQ,CO,CT,CL,CN,CP,BD,BE,BG,BH,BJ,BF]
   refine A5 (by omega) (ldI (by omega) (CB (A8 (fun hg=>h _ _ (si.same hg)) fun hg=> ?_)))
   have hg:gI col s=1:=Decidable.not_not.1 hg
   refine A5 (by omega) (ldI (by omega) (CX (A8 (fun he=> ?_) fun he=> ?_)))
   ·have he:=(si.tM hs hg).1 he
    exact RO hol hof ⟨by omega,by omega⟩ ⟨by omega,by omega⟩ 8 (SE _ _) hs hl.1 hl.2 si.f fun cs' col' p=>h _ _ (si.black hs hg he p)
   have he:=fun hx=>he ((si.tM hs hg).2 hx)
   refine A5 (by omega) (qW (v:=2) (by omega) (PF hol hof hs ?_))
   have hkl:=T8 hof (k:=s) (by omega)
   refine NI (α:=Nat×List Int×List Int) (fun q=>[iv (BA os s).length,iv q.1]) (fun q=>[tI (BA os s),tI q.2.1,tI q.2.2]) (fun q=>(BA os s).length-q.1) (OY os ct C col s) (0,cs,col.set s 2) (by simp only [AM,AS,AW,AU,AO,AI,AJ,AQ,AK,AP,AN,AR,AL,AV,CF,CQ,CO,CT,CL,CN,CP,BD,BE,BG,BH,BJ,BF];rfl) rfl (OY.start si hs hg he) (fun R q hq hR=> ?_)
   obtain ⟨j,cs1,col1⟩:=q
   have hj:=hq.j
   simp only at hj
   simp only [AM,AS,AW,AU,AO,AI,AJ,AQ,AK,AP,AN,AR,AL,AV,CF,CQ,CO,CT,CL,CN,CP,BD,BE,BG,BH,BJ,BF]
   refine A4 (A8 (fun hlt=> ?_) fun hge=> ?_)
   ·have hlt:j<(BA os s).length:=by omega
    obtain ⟨x1,x2,x3,_⟩:=B2 (JH hlt)
    have hmiss:8-NC col1 1≤n:=by
     have:=OD (a:=col1) (b:=col) (c:=1) hs (hq.ng s hs (.inr rfl)) hg fun k hk hh=>by
      by_cases h3:gI col k=1
      ·exact h3
      ·exact absurd hh (hq.ng k hk (.inl h3))
     have:=SE col1 1
     omega
    have stp:=fun cs2 col2=>OY.step (cs2:=cs2) (col2:=col2) hq hlt
    obtain ⟨x,hx⟩: ∃x,(gI (BA os s) j).toNat=x:=⟨_,rfl⟩
    rw [hx] at x2 x3 stp
    refine A5 hlt (ldI hlt ?_)
    rw [x3]
    refine ih hmiss x2 hq.si fun cs2 col2 p=> ?_
    exact AZ (by omega) (hR (j+1,cs2,col2) (stp _ _ p) (by simp only;omega))
   ·have:j=(BA os s).length:=by omega
    subst this
    exact h _ _ (OY.stop hs hq)
end Go.Proofs.YthapfcoajahegaaDoor.P
namespace Go.Proofs.YthapfcoajahegaaDoor.P
open Go Go.Proofs.YthapfcoajahegaaDoor Go.Proofs.YthapfcoajahegaaDoor.Eng
set_option linter.unusedVariables false
set_option maxHeartbeats 4000000
set_option linter.unusedVariables false
set_option linter.unusedSimpArgs false
attribute [local irreducible] prP gP gE gF AY ixW ldc ldg ldl stc stg scW mkW apW A6 cl2 BL C5 BX
variable {w0:World}
theorem TF {os:List AD} {b c' d:List T} {cs col:List Int} {ct:Nat→Int} {C:Nat→Bool} {id:Int} {K:J2} (hol:os.length=8) (hof: ∀o∈os,OF o) (si:SN os ct C cs col) (hno:AA os id<0→K [] [tI cs,tI col]) (h: ∀s:Nat,AA os id=s→s<8→ ∀cs' col',R0 os ct C col cs' col' s→K [] [tI cs',tI col']):cl2 ⟨Tryd.prog,w0⟩ 32 F7.sg [I (AA os id)] [tR tO os,b,c',d,tI cs,tI col] K:=by
 have hl:=si.len
 refine F7.cl2 ?_
 unfold F7.txt
 refine NR (by omega) (by omega) (HH (QQ hol hl.1 hl.2 (fun hs=>DI (hno hs)) fun hs=>EC ?_))
 have hk:=A7 hs
 obtain ⟨s,hss⟩: ∃s,(AA os id).toNat=s:=⟨_,rfl⟩
 have hsI:AA os id=(s:Int):=by omega
 have hs:s<8:=hss ▸ hk.2.2.2.1
 rw [hsI]
 exact aV hol hof 8 (by omega) hs si fun cs' col' p=>h s hsI hs _ _ p
structure N4 (os:List AD) (ct:Nat→Int) (C:Nat→Bool) (col0:List Int) (s:Nat) (todo cs col:List Int):Prop where
 si:SN os ct C cs col
 ng: ∀k,k<8→gI col0 k≠1→gI col k≠1
 wk: ∀k,k<8→gI col k=2→gI col0 k=2∨ ∀j∈BA os k,gI col j.toNat≠1∨j∈todo
 got:gI col s≠1∨(s:Int)∈todo
 td: ∀x∈todo,0≤x∧x.toNat<8
 sz:todo.length+4*(8-NC col 1)≤40
section
variable {os:List AD} {ct:Nat→Int} {C:Nat→Bool} {col0 cs col cs' col' todo:List Int} {s k:Nat}
theorem N4.stop (h:N4 os ct C col0 s [] cs col):R0 os ct C col0 cs col s:=
 ⟨h.si,h.ng,h.got.resolve_right (by simp),fun k hk h2=>(h.wk k hk h2).imp_right fun g j hj=>(g j hj).resolve_right (by simp)⟩
theorem P6 {x:Int} (hl:todo.length>0) (hk:gI todo (todo.length-1)=(k:Int)) (h:x∈todo):x∈todo.dropLast∨x=(k:Int):=by
 rw [hI hl,List.mem_append,List.mem_singleton,hk] at h;exact h
theorem N4.drop (h:N4 os ct C col0 s todo cs col) (hl:todo.length>0) (hk:gI todo (todo.length-1)=(k:Int)) (hc:gI col k≠1):N4 os ct C col0 s todo.dropLast cs col:=by
 refine ⟨h.si,h.ng,fun x hx h2=>(h.wk x hx h2).imp_right fun g j hj=> ?_, ?_,fun x hx=>h.td x (List.dropLast_subset _ hx),by have:=h.sz;rw [List.length_dropLast];omega⟩
 ·rcases g j hj with g | g
  ·exact .inl g
  ·rcases P6 hl hk g with g | rfl
   ·exact .inr g
   ·rw [Int.toNat_natCast];exact .inl hc
 ·rcases h.got with g | g
  ·exact .inl g
  ·rcases P6 hl hk g with g | g
   ·exact .inr g
   ·have:s=k:=by omega
    subst this;exact .inl hc
theorem N4.black (h:N4 os ct C col0 s todo cs col) (hl:todo.length>0) (hk:gI todo (todo.length-1)=(k:Int)) (p:R0 os ct C col cs' col' k):N4 os ct C col0 s todo.dropLast cs' col':=by
 have hm:NC col 1≤NC col' 1:=nQ (a:=col') (b:=col) fun y hy h1=>Decidable.byContradiction fun hh=>p.ng y hy hh h1
 refine ⟨p.si,fun x hx h1=>p.ng x hx (h.ng x hx h1),fun x hx h2=> ?_, ?_,fun x hx=>h.td x (List.dropLast_subset _ hx),by have:=h.sz;rw [List.length_dropLast];omega⟩
 ·rcases p.wk x hx h2 with h3 | h3
  ·refine (h.wk x hx h3).imp_right fun g j hj=> ?_
   rcases g j hj with g | g
   ·exact .inl (p.ng _ (B2 hj).2.1 g)
   ·rcases P6 hl hk g with g | rfl
    ·exact .inr g
    ·rw [Int.toNat_natCast];exact .inl p.got
  ·exact .inr fun j hj=> .inl (h3 j hj)
 ·rcases h.got with g | g
  ·by_cases hs:s<8
   ·exact .inl (p.ng s hs g)
   ·have e:gI col' s=0:=by
     unfold gI;rw [List.getD_eq_getElem?_getD,List.getElem?_eq_none (by have:=p.si.len.2;omega)];rfl
    rw [e];exact .inl (by decide)
  ·rcases P6 hl hk g with g | g
   ·exact .inr g
   ·have:s=k:=by omega
    subst this;exact .inl p.got
theorem N4.mD (hof: ∀o∈os,OF o) (hol:os.length=8) (h:N4 os ct C col0 s todo cs col) (hl:todo.length>0) (hk:gI todo (todo.length-1)=(k:Int)) (k8:k<8) (hg:gI col k=1) (he: ¬EX os ct C k):N4 os ct C col0 s (todo.dropLast++BA os k) cs (col.set k 2)∧(todo.dropLast++BA os k).length+4*(8-NC (col.set k 2) 1)<todo.length+4*(8-NC col 1):=by
 have hlen:=h.si.len
 have e: ∀x,gI (col.set k 2) x=if x=k then 2 else gI col x:=fun x=>GM (by omega)
 have n1: ∀x,gI col x≠1∨x=k→gI (col.set k 2) x≠1:=fun x hx=>by
  rw [e];split
  ·decide
  ·rename_i hh;exact hx.resolve_right hh
 have hkl:=T8 hof (k:=k) (by omega)
 have hm:NC col 1<NC (col.set k 2) 1:=OD (a:=col.set k 2) (b:=col) k8 (n1 k (.inr rfl)) hg fun y hy h1=>Decidable.byContradiction fun hh=>n1 y (.inl hh) h1
 have hm8:=SE (col.set k 2) 1
 have hsz:=h.sz
 refine ⟨⟨h.si.mD k8 hg he,fun x hx h1=>n1 x (.inl (h.ng x hx h1)),fun x hx h2=> ?_, ?_,fun x hx=> ?_,by rw [List.length_append,List.length_dropLast];omega⟩,by rw [List.length_append,List.length_dropLast];omega⟩
 ·by_cases hxk:x=k
  ·subst hxk
   exact .inr fun j hj=> .inr (List.mem_append_right _ hj)
  ·rw [e,if_neg hxk] at h2
   refine (h.wk x hx h2).imp_right fun g j hj=> ?_
   rcases g j hj with g | g
   ·exact .inl (n1 _ (.inl g))
   ·rcases P6 hl hk g with g | rfl
    ·exact .inr (List.mem_append_left _ g)
    ·rw [Int.toNat_natCast];exact .inl (n1 _ (.inr rfl))
 ·rcases h.got with g | g
  ·exact .inl (n1 _ (.inl g))
  ·rcases P6 hl hk g with g | g
   ·exact .inr (List.mem_append_left _ g)
   ·exact .inl (n1 _ (.inr (by omega)))
 ·rcases List.mem_append.1 hx with hx | hx
  ·exact h.td x (List.dropLast_subset _ hx)
  ·exact ⟨(B2 hx).1,(B2 hx).2.1⟩
theorem N4.start (si:SN os ct C cs col) (hs:s<8):N4 os ct C col s [(s:Int)] cs col:=
 ⟨si,fun _ _ h=>h,fun _ _ h=> .inl h, .inr (by simp),fun x hx=>by have hx:x=(s:Int):=by simpa using hx
                                                                  subst hx;rw [Int.toNat_natCast];exact ⟨by omega,hs⟩,by simp only [List.length_singleton];omega⟩
end
end Go.Proofs.YthapfcoajahegaaDoor.P
namespace Go.Proofs.YthapfcoajahegaaDoor.P
open Go Go.Proofs.YthapfcoajahegaaDoor Go.Proofs.YthapfcoajahegaaDoor.Eng
set_option linter.unusedVariables false
def RB (os:List AD) (ids:List Int) (k:Nat):Prop:= ∃b∈ids, ∃s:Nat,AA os b=(s:Int)∧Reach os s k
theorem RB.next {os:List AD} {ids:List Int} {k:Nat} {j:Int} (h:RB os ids k) (hj:j∈BA os k):RB os ids j.toNat:=by
 obtain ⟨b,hb,s,hs,hr⟩:=h
 exact ⟨b,hb,s,hs, .step hr hj⟩
theorem RB.lt {os:List AD} {ids:List Int} {k:Nat} (h:RB os ids k):k<8:=by
 obtain ⟨b,_,s,hs,hr⟩:=h
 have:=A7 (l:=os) (id:=b) (by omega)
 exact hr.lt (by omega)
theorem RB.snoc {os:List AD} {ids:List Int} {b:Int} {k:Nat}:RB os (ids++[b]) k↔RB os ids k∨ ∃s:Nat,AA os b=(s:Int)∧Reach os s k:=by
 constructor
 ·rintro ⟨x,hx,h⟩
  rcases List.mem_append.1 hx with hx | hx
  ·exact .inl ⟨x,hx,h⟩
  ·have hx:x=b:=by simpa using hx
   subst hx;exact .inr h
 ·rintro (⟨x,hx,h⟩ | h)
  ·exact ⟨x,List.mem_append_left _ hx,h⟩
  ·exact ⟨b,by simp,h⟩
structure MK (os:List AD) (ct:Nat→Int) (ids:List Int) (cs col:List Int):Prop where
 len:cs.length=8∧col.length=8
 f: ∀i,i<8→F64 (gI cs i)
 one: ∀k,k<8→gI col k=1→RB os ids k
 zero: ∀k,k<8→gI col k≠1→gI col k=0∧ ¬RB os ids k
 cnt: ∀i,i<8→gI cs i=w64 (ct i-S os (isC col 1) i)
section
variable {os:List AD} {ct:Nat→Int} {ids:List Int} {cs col cs' col':List Int} {b:Int} {s:Nat}
theorem MK.none (h:MK os ct ids cs col) (hb:AA os b<0):MK os ct (ids++[b]) cs col:=by
 refine ⟨h.len,h.f,fun k hk h1=>RB.snoc.2 (.inl (h.one k hk h1)),fun k hk h1=>⟨(h.zero k hk h1).1,fun hr=> ?_⟩,h.cnt⟩
 rcases RB.snoc.1 hr with hr | ⟨s,hs,_⟩
 ·exact (h.zero k hk h1).2 hr
 ·omega
theorem MK.some (h:MK os ct ids cs col) (hb:AA os b=(s:Int)) (hs:s<8) (p:L8 os 1 (-1) cs col cs' col' s):MK os ct (ids++[b]) cs' col':=by
 have cl: ∀k,Reach os s k→k<8∧gI col' k=1:=fun k hr=>hr.closed (P:=fun k=>k<8∧gI col' k=1) ⟨hs,p.got⟩ fun x hx j hj=>by
  refine ⟨(B2 hj).2.1, ?_⟩
  by_cases h1:gI col x=1
  ·refine p.KL _ (B2 hj).2.1 (Decidable.byContradiction fun hn=> ?_)
   exact (h.zero _ (B2 hj).2.1 hn).2 ((h.one x hx.1 h1).next hj)
  ·exact (p.clo x hx.1 hx.2 h1).2 j hj
 refine ⟨p.len,p.f,fun k hk h1=>RB.snoc.2 ?_,fun k hk h1=> ?_,fun i hi=> ?_⟩
 ·by_cases h0:gI col k=1
  ·exact .inl (h.one k hk h0)
  ·exact .inr ⟨s,hb,(p.clo k hk h1 h0).1⟩
 ·have e:=p.only k hk h1
  have h2:gI col k≠1:=by rw [←e];exact h1
  obtain ⟨z1,z2⟩:=h.zero k hk h2
  refine ⟨by rw [e];exact z1,fun hr=> ?_⟩
  rcases RB.snoc.1 hr with hr | ⟨s',hs',hr⟩
  ·exact z2 hr
  ·have:s'=s:=by omega
   subst this
   exact h1 (cl k hr).2
 ·rw [p.cnt i hi,h.cnt i hi,M6]
  congr 1
  omega
end
open Classical in
noncomputable def N5 (os:List AD) (buf:List Int) (k:Nat):Bool:=decide (RB os buf k)
def Out (os:List AD) (ct:Nat→Int) (buf:List Int) (x:Nat):Prop:=x<8∧RB os buf x∧EX os ct (N5 os buf) x
open Classical in
noncomputable def ML (os:List AD) (ct:Nat→Int) (buf:List Int) (k:Nat):Bool:=decide (RB os buf k∧ ¬ ∃x,Out os ct buf x∧Reach os x k)
theorem VU {os:List AD} {buf:List Int} {k:Nat}:N5 os buf k=true↔RB os buf k:=by unfold N5;simp
theorem SL {os:List AD} {buf:List Int} {k:Nat}:N5 os buf k=false↔ ¬RB os buf k:=by unfold N5;simp
theorem KB {os:List AD} {ct:Nat→Int} {buf:List Int} {k:Nat}:ML os ct buf k=true↔RB os buf k∧ ¬ ∃x,Out os ct buf x∧Reach os x k:=by unfold ML;simp
structure SC (os:List AD) (ct:Nat→Int) (buf:List Int) (ids:List Int) (cs col:List Int):Prop where
 si:SN os ct (N5 os buf) cs col
 got: ∀b∈ids, ∀s:Nat,AA os b=(s:Int)→gI col s≠1
 wk: ∀k,k<8→gI col k=2→ ∀j∈BA os k,gI col j.toNat≠1
section
variable {os:List AD} {ct:Nat→Int} {buf ids:List Int} {cs col cs' col':List Int} {b:Int} {s:Nat}
theorem SC.start (h:MK os ct buf cs col):SC os ct buf [] cs col:=by
 refine ⟨⟨h.len,h.f,fun k hk=> ?_,fun k hk hc=> ?_,fun i hi=> ?_,fun k hk hc h0=> ?_,fun k hk h2=> ?_⟩,fun b hb=>by simp at hb,fun k hk h2=> ?_⟩
 ·by_cases h1:gI col k=1
  ·exact .inr (.inl h1)
  ·exact .inl (h.zero k hk h1).1
 ·exact (h.zero k hk fun h1=>SL.1 hc (h.one k hk h1)).1
 ·rw [h.cnt i hi]
  congr 2
  refine eR fun k hk=> ?_
  by_cases h1:gI col k=1
  ·simp [isC,h1]
  ·simp [isC,(h.zero k hk h1).1]
 ·exact absurd (VU.1 hc) (h.zero k hk (by omega)).2
 ·have:=(h.zero k hk (by omega)).1;omega
 ·have:=(h.zero k hk (by omega)).1;omega
theorem SC.none (h:SC os ct buf ids cs col) (hb:AA os b<0):SC os ct buf (ids++[b]) cs col:=
 ⟨h.si,fun x hx s hs=>by
   rcases List.mem_append.1 hx with hx | hx
   ·exact h.got x hx s hs
   ·have hx:x=b:=by simpa using hx
    subst hx;omega,h.wk⟩
theorem SC.some (h:SC os ct buf ids cs col) (hb:AA os b=(s:Int)) (hs:s<8) (p:R0 os ct (N5 os buf) col cs' col' s):SC os ct buf (ids++[b]) cs' col':=by
 refine ⟨p.si,fun x hx t ht=> ?_,fun k hk h2=> ?_⟩
 ·rcases List.mem_append.1 hx with hx | hx
  ·have:=A7 (l:=os) (id:=x) (by omega)
   exact p.ng t (by omega) (h.got x hx t ht)
  ·have hx:x=b:=by simpa using hx
   subst hx
   have:t=s:=by omega
   subst this;exact p.got
 ·rcases p.wk k hk h2 with h3 | h3
  ·exact fun j hj=>p.ng _ (B2 hj).2.1 (h.wk k hk h3 j hj)
  ·exact h3
theorem SC.stop (h:SC os ct buf buf cs col): ∀k,k<8→(gI col k=2↔ML os ct buf k=true):=by
 have ng: ∀k,RB os buf k→gI col k≠1:=fun k hr=>by
  obtain ⟨b,hb,s,hs,hr⟩:=hr
  have hb8:=A7 (l:=os) (id:=b) (by omega)
  have:=hr.closed (P:=fun k=>(k<8∧RB os buf k)∧gI col k≠1) ⟨⟨by omega,b,hb,s,hs, .refl⟩,h.got b hb s hs⟩ fun x hx j hj=>by
   refine ⟨⟨(B2 hj).2.1,hx.1.2.next hj⟩, ?_⟩
   rcases h.si.rng x hx.1.1 with h0 | h1 | h2
   ·have:=(h.si.blk x hx.1.1 (VU.2 hx.1.2) h0).2 j hj;omega
   ·exact absurd h1 hx.2
   ·exact h.wk x hx.1.1 h2 j hj
  exact this.2
 intro k hk
 rw [KB]
 constructor
 ·intro h2
  have hr:RB os buf k:=Classical.byContradiction fun hn=>by
   have:=h.si.out k hk (SL.2 hn);omega
  refine ⟨hr, ?_⟩
  rintro ⟨x,⟨hx8,hx,he⟩,hxk⟩
  have:=hxk.closed (P:=fun k=>(k<8∧RB os buf k)∧gI col k=0) ⟨⟨hx8,hx⟩,by
   rcases h.si.rng x hx8 with h0 | h1 | h2
   ·exact h0
   ·exact absurd h1 (ng x hx)
   ·exact absurd he (h.si.wht x hx8 h2)⟩ fun y hy j hj=>⟨⟨(B2 hj).2.1,hy.1.2.next hj⟩,(h.si.blk y hy.1.1 (VU.2 hy.1.2) hy.2).2 j hj⟩
  omega
 ·rintro ⟨hr,hn⟩
  rcases h.si.rng k hk with h0 | h1 | h2
  ·obtain ⟨x,x8,xc,xe,xr⟩:=(h.si.blk k hk (VU.2 hr) h0).1
   exact absurd ⟨x,⟨x8,VU.1 xc,xe⟩,xr⟩ hn
  ·exact absurd h1 (ng k hr)
  ·exact h2
end
def mk8 (f:Nat→AD):List AD:=(List.range 8).map f
theorem FE (f:Nat→AD):(mk8 f).length=8:=by simp [mk8]
theorem KX {f:Nat→AD} {i:Nat} (h:i<8):ob (mk8 f) i=f i:=by
 rw [←FH (by rw [FE];exact h)];simp [mk8]
theorem SD {f g:Nat→AD} (h: ∀i,i<8→f i=g i):mk8 f=mk8 g:=List.map_congr_left fun i hi=>h i (List.mem_range.1 hi)
theorem bF {os:List AD} (h:os.length=8):os=mk8 (ob os):=by
 apply List.ext_getElem (by rw [FE,h])
 intro i h1 h2
 rw [FH h1,FH h2,KX (by omega)]
theorem TS {f:Nat→AD} {k:Nat} {v:AD} (hk:k<8):(mk8 f).set k v=mk8 fun i=>if i=k then v else f i:=by
 apply List.ext_getElem (by simp [FE])
 intro i h1 h2
 have hi:i<8:=by rw [FE] at h2;exact h2
 rw [FH h1,FH h2,D9 (by rw [FE];exact hk),KX hi,KX hi]
theorem fC {f:Nat→AD} {o:AD} (h:o∈mk8 f): ∃i,i<8∧o=f i:=by
 obtain ⟨i,hi,rfl⟩:=List.mem_map.1 h
 exact ⟨i,List.mem_range.1 hi,rfl⟩
theorem O3 {a b:List AD} {id:Int} (hl:a.length=b.length) (h: ∀i,i<a.length→(ob a i).live=(ob b i).live∧(ob a i).field=(ob b i).field):B3 a id=B3 b id:=by
 unfold B3
 congr 1
 apply List.ext_getElem (by simp [hl])
 intro i h1 h2
 simp only [List.length_map] at h1 h2
 rw [List.getElem_map,List.getElem_map,FH h1,FH h2]
 unfold OG
 rw [(h i h1).1,(h i h1).2]
theorem rT {a b:List AD} {s:Int} (hl:a.length=b.length) (h: ∀i,i<a.length→(ob a i).live=(ob b i).live∧(ob a i).gen=(ob b i).gen∧(ob a i).field=(ob b i).field):inE a s=inE b s:=by
 unfold inE
 by_cases hs:0≤s∧s≤(a.length:Int)-1
 ·have hi:=h s.toNat (by omega)
  rw [hi.1,hi.2.1,O3 hl fun i hi=>⟨(h i hi).1,(h i hi).2.2⟩,hl]
 ·rw [if_neg (fun hh=>hs hh.1),if_neg (fun hh=>hs (by rw [hl];exact hh.1))]
def G8 (os:List AD) (W:Nat→Bool) (i:Nat):AD:=if W i=true then BS (ob os i).gen else {ob os i with purple:=false}
def IC (os:List AD) (W:Nat→Bool) (i:Nat):AD:=if (G8 os W i).live=true then {G8 os W i with count:=w64 (w64 ((G8 os W i).holds+(G8 os W i).roots)+inE (mk8 (G8 os W)) i)} else G8 os W i
def ET (W:Nat→Bool):Nat→List Int:=pick fun i=>if W i=true then [(i:Int)] else []
def XO (os:List AD) (W:Nat→Bool):Nat→List Int:=pick fun i=>if W i=true then [CV i (ob os i).gen] else []
theorem kL {α β:Type} {f:Nat→List α} {h:α→β} (n:Nat):(pick f n).map h=pick (fun i=>(f i).map h) n:=by
 induction n with
 | zero=>rfl
 | succ n ih=>simp only [pick,List.map_append,ih]
theorem VS {α:Type} {f g:Nat→List α} {n:Nat} (h: ∀i,i<n→f i=g i):pick f n=pick g n:=by
 induction n with
 | zero=>rfl
 | succ n ih=>simp only [pick];rw [ih fun i hi=>h i (by omega),h n (by omega)]
theorem X4 (os:List AD) (W:Nat→Bool) (n:Nat):(ET W n).map (fun x=>CV x (ob os x.toNat).gen)=XO os W n:=by
 unfold ET XO
 rw [kL]
 refine VS fun i hi=> ?_
 split <;> simp
theorem QU {W:Nat→Bool} {n:Nat} {x:Int}:x∈ET W n↔ ∃i:Nat,i<n∧x=i∧W i=true:=by
 unfold ET
 induction n with
 | zero=>simp [pick]
 | succ n ih=>
   simp only [pick,List.mem_append,ih]
   constructor
   ·rintro (⟨i,h1,h2,h3⟩ | h)
    ·exact ⟨i,by omega,h2,h3⟩
    ·split at h
     ·rename_i hw;exact ⟨n,by omega,by simpa using h,hw⟩
     ·simp at h
   ·rintro ⟨i,h1,h2,h3⟩
    by_cases hi:i=n
    ·subst hi;right;rw [if_pos h3];simp [h2]
    ·exact .inl ⟨i,by omega,h2,h3⟩
noncomputable def JM (os:List AD) (buf:List Int):List AD×List Int:=
 (mk8 (IC os (ML os (fun i=>(ob os i).count) buf)),XO os (ML os (fun i=>(ob os i).count) buf) 8)
end Go.Proofs.YthapfcoajahegaaDoor.P
