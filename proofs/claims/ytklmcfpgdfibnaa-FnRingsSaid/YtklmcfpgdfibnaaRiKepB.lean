/- A part of the proof. -/
import Derived.Test.YtklmcfpgdfibnaaRiRchB
import Derived.Test.YtklmcfpgdfibnaaRiWayA
import Derived.Test.YtklmcfpgdfibnaaRiKepA
namespace Go.Proofs.Ytklmcfpgdfibnaa.P
open Go Go.Proofs.Ytklmcfpgdfibnaa Go.Proofs.Ytklmcfpgdfibnaa.Eng
set_option linter.unusedVariables false
def tLk (t:Int×Int×Int):List T:=[.c (I t.1), .c (I t.2.1), .c (I t.2.2)]
instance zK:Rw tLk 3:=⟨by omega,fun _=>rfl⟩
theorem TW (l:List (Int×Int×Int)):cnt 3 (tR tLk l)=l.length:=SF l
def lk1 (os:List AE) (v:Int):Int×Int×Int:=(v,if ldB os v v=true then 1 else 2,(ob os (AA os v).toNat).site)
def lkM (os:List AE):List (Int×Int×Int):=(G5 os).map (lk1 os)
set_option maxHeartbeats 4000000
set_option linter.unusedVariables false
set_option linter.unusedSimpArgs false
attribute [local irreducible] prP gP gE gF AW ixW ldc ldg ldl stc stg scW mkW apW AZ cl2 BJ CH B2
variable {w0:World}
theorem WJ {x:Hp} {v:Int} {K:J2} (hk:BG x) (fv:F64 v) (hs:0≤AA x.AB v) (h:K [I (ob x.AB (AA x.AB v).toNat).site] []):cl2 ⟨Try.prog,w0⟩ 90 E9.sg [I v] (trees x) K:=by
 have ol8:=hk.ol
 obtain ⟨k,ek⟩: ∃k:Nat,AA x.AB v=k:=⟨(AA x.AB v).toNat,by omega⟩
 have k8:=(HS ek).1
 refine E9.cl2 ?_
 unfold E9.txt
 try simp only [trees]
 try simp only [AJ,AO,AS,AN,AQ,AG,AK,AI,AR,AT,AU,AM,AL,AP,BP,BU,BW,BT,BV,BS,BQ,AY,A6,A7,A4,A5,A8]
 refine B5 fv (by omega) ?_
 rw [ek] at h ⊢
 rw [Int.toNat_natCast] at h
 exact BE (HI (by omega) (BF (by omega) (JX (c:=2) (by omega) (by decide) rfl h)))
theorem ZH {x:Hp} {K:J2} (hk:BG x) (h:K [] [tR tLk (lkM x.AB)]):cl2 ⟨Try.prog,w0⟩ 20 FU.sg [] (trees x) K:=by
 have ol8:=hk.ol
 have ll:=KF x.AB
 have lk:(G5 x.AB).length≤(B1 x.AB).length:=List.length_filter_le _ _
 have hlv: ∀v∈G5 x.AB,v∈B1 x.AB:=fun v hv=>(List.mem_filter.1 hv).1
 refine FU.cl2 ?_
 unfold FU.txt
 try simp only [trees]
 try simp only [AJ,AO,AS,AN,AQ,AG,AK,AI,AR,AT,AU,AM,AL,AP,BP,BU,BW,BT,BV,BS,BQ,AY,A6,A7,A4,A5,A8]
 refine LK hk ?_
 unfold lkM at h
 generalize G5 x.AB=m at h lk hlv ⊢
 simp only [AJ,AO,AS,AN,AQ,AG,AK,AI,AR,AT,AU,AM,AL,AP,BP,BU,BW,BT,BV,BS,BQ,AY,A6,A7,A4,A5,A8]
 refine BL (fun i=>[iv m.length,iv i]) (fun i=>[tR tLk ((m.take i).map (lk1 x.AB)),tI m]) m.length (fun _=>True) rfl rfl trivial (fun R i hi _ hR=> ?_)
 have tl:((m.take i).map (lk1 x.AB)).length=i:=by rw [List.length_map,List.length_take];omega
 simp only [AJ,AO,AS,AN,AQ,AG,AK,AI,AR,AT,AU,AM,AL,AP,BP,BU,BW,BT,BV,BS,BQ,AY,A6,A7,A4,A5,A8]
 refine BE (BB (fun hlt=> ?_) fun hge=> ?_)
 ·have hlt:i<m.length:=by omega
  have hR:=hR hlt trivial
  have hm:=hlv _ (D6 hlt)
  have hs:=HO hk hm
  have fv:F64 (gI m i):=BM (by have:=hk.MO hs;omega)
  rw [List.take_succ_eq_append_getElem hlt,List.map_append,DE hlt] at hR
  refine BF hlt (ldI hlt (DB (ND hk fv fv hs hs ?_)))
  have fin: ∀kd:Int,lk1 x.AB (gI m i)=(gI m i,kd,(ob x.AB (AA x.AB (gI m i)).toNat).site)→cl2 ⟨Try.prog,w0⟩ 90 E9.sg [I (gI m i)] (trees x) fun v32 d33=>
    apW [T.c (I (gI m i)),T.c (I kd),T.c (nx v32 0)] true (cnt 3 (tR tLk ((m.take i).map (lk1 x.AB)))) 1 24 (
    prP (bnI .add (iv i) (.int .i64 1)) fun t27_35=>
    R [iv m.length,t27_35] [tR tLk ((m.take i).map (lk1 x.AB))++[T.c (I (gI m i)),T.c (I kd),T.c (nx v32 0)],tI m]):=fun kd e=>by
   refine WJ hk fv hs (GH rfl (by rw [TW,tl];omega) (A9 (by omega) ?_))
   simp only [BP]
   have e2:tR tLk ((m.take i).map (lk1 x.AB))++[T.c (I (gI m i)),T.c (I kd),T.c (I (ob x.AB (AA x.AB (gI m i)).toNat).site)]=tR tLk ((m.take i).map (lk1 x.AB)++[(gI m i,kd,(ob x.AB (AA x.AB (gI m i)).toNat).site)]):=MV _ (gI m i,kd,(ob x.AB (AA x.AB (gI m i)).toNat).site)
   rw [e2, ←e]
   exact hR
  simp only [BP]
  cases e1:ldB x.AB (gI m i) (gI m i) with
  | true=>refine CV ?_;simp only [AJ,AO,AS,AN,AQ,AG,AK,AI,AR,AT,AU,AM,AL,AP,BP,BU,BW,BT,BV,BS,BQ,AY,A6,A7,A4,A5,A8];exact fin 1 (by unfold lk1;rw [e1];rfl)
  | false=>refine C7 ?_;simp only [AJ,AO,AS,AN,AQ,AG,AK,AI,AR,AT,AU,AM,AL,AP,BP,BU,BW,BT,BV,BS,BQ,AY,A6,A7,A4,A5,A8];exact fin 2 (by unfold lk1;rw [e1];rfl)
 ·have:i=m.length:=by omega
  subst this
  rw [List.take_length]
  exact h
end Go.Proofs.Ytklmcfpgdfibnaa.P
namespace Go.Proofs.Ytklmcfpgdfibnaa.P
open Go Go.Proofs.Ytklmcfpgdfibnaa Go.Proofs.Ytklmcfpgdfibnaa.Eng
set_option linter.unusedVariables false
theorem vP {l:List Nd} {i k:Nat} {v:Nd} (hk:k<l.length):nd (l.set k v) i=if i=k then v else nd l i:=by
 unfold nd
 by_cases h:i=k
 ·subst h
  rw [if_pos rfl,List.getD_eq_getElem?_getD,List.getElem?_set_self hk];rfl
 ·rw [if_neg h,List.getD_eq_getElem?_getD,List.getElem?_set_ne (Ne.symm h),List.getD_eq_getElem?_getD]
theorem pM {l:List Nd} {i:Nat}:ob (osN l) i=toO (nd l i):=by
 by_cases hi:i<l.length
 ·exact vW hi
 ·unfold nd ob
  rw [List.getD_eq_getElem?_getD,List.getElem?_eq_none (by simpa using Nat.le_of_not_lt hi),List.getD_eq_getElem?_getD,List.getElem?_eq_none (by simpa using Nat.le_of_not_lt hi)]
  rfl
theorem sQ {os:List AE} {i:Nat}:nd (os.map aP) i=aP (ob os i):=by
 by_cases hi:i<os.length
 ·have h2:i<(os.map aP).length:=by simpa using hi
  rw [←sP h2, ←DQ hi];simp
 ·unfold nd ob
  rw [List.getD_eq_getElem?_getD,List.getElem?_eq_none (by simpa using Nat.le_of_not_lt hi),List.getD_eq_getElem?_getD,List.getElem?_eq_none (by simpa using Nat.le_of_not_lt hi)]
  rfl
def grQ (a:List Nd):Que:=QL (osN a) (-1) 9 0 (y2 (osN a) 8)
set_option maxHeartbeats 4000000
set_option linter.unusedVariables false
set_option linter.unusedSimpArgs false
attribute [local irreducible] prP gP gE gF AW ixW ldc ldg ldl stc stg scW mkW apW AZ cl2 BJ CH B2
variable {w0:World}
end Go.Proofs.Ytklmcfpgdfibnaa.P
namespace Go.Proofs.Ytklmcfpgdfibnaa.P
open Go Go.Proofs.Ytklmcfpgdfibnaa Go.Proofs.Ytklmcfpgdfibnaa.Eng
set_option linter.unusedVariables false
set_option maxHeartbeats 4000000
set_option linter.unusedVariables false
set_option linter.unusedSimpArgs false
attribute [local irreducible] prP gP gE gF AW ixW ldc ldg ldl stc stg scW mkW apW AZ cl2 BJ CH B2
variable {w0:World}
end Go.Proofs.Ytklmcfpgdfibnaa.P
namespace Go.Proofs.Ytklmcfpgdfibnaa.P
open Go Go.Proofs.Ytklmcfpgdfibnaa Go.Proofs.Ytklmcfpgdfibnaa.Eng
set_option linter.unusedVariables false
set_option maxHeartbeats 4000000
set_option linter.unusedVariables false
set_option linter.unusedSimpArgs false
attribute [local irreducible] prP gP gE gF AW ixW ldc ldg ldl stc stg scW mkW apW AZ cl2 BJ CH B2
variable {w0:World}
structure NOk (a:List Nd):Prop where
 len:a.length=8
 nd: ∀i,i<8→(nd a i).field.length=3∧(∀f∈(Eng.nd a i).field,F64 f)∧(0≤(Eng.nd a i).gen∧(Eng.nd a i).gen≤1000)∧(0≤(Eng.nd a i).holds∧(Eng.nd a i).holds≤20)∧(0≤(Eng.nd a i).roots∧(Eng.nd a i).roots≤20)
theorem NOk.fl {a:List Nd} (h:NOk a): ∀i,i<8→(Eng.nd a i).field.length≤1000∧ ∀f∈(Eng.nd a i).field,F64 f:=fun i hi=>⟨by rw [(h.nd i hi).1];omega,(h.nd i hi).2.1⟩
theorem NOk.set {a:List Nd} (h:NOk a) {k:Nat} {v:Nd} (hk:k<8) (h1:v.field.length=3) (h2: ∀f∈v.field,F64 f) (h3:0≤v.gen∧v.gen≤1000) (h4:0≤v.holds∧v.holds≤20) (h5:0≤v.roots∧v.roots≤20):NOk (a.set k v):=by
 have hl:=h.len
 refine ⟨by simp [hl],fun i hi=> ?_⟩
 rw [vP (by omega)]
 split
 ·exact ⟨h1,h2,h3,h4,h5⟩
 ·exact h.nd i hi
def bF (g:Int):Nd:=⟨false,g,0,0,0,G4⟩
theorem qP: ∀f∈G4,F64 f:=by simp [G4,F64]
theorem NOk.free {a:List Nd} (h:NOk a) {k:Nat} (hk:k<8):NOk (a.set k (bF (Eng.nd a k).gen)):=h.set hk rfl qP (h.nd k hk).2.2.1 ⟨by simp [bF],by simp [bF]⟩ ⟨by simp [bF],by simp [bF]⟩
end Go.Proofs.Ytklmcfpgdfibnaa.P
