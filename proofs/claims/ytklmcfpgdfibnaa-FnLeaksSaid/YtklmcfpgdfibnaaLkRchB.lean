/- A part of the proof. -/
import Derived.Test.YtklmcfpgdfibnaaLkKepA
import Derived.Test.YtklmcfpgdfibnaaLkWayA
namespace Go.Proofs.Ytklmcfpgdfibnaa.P
open Go Go.Proofs.Ytklmcfpgdfibnaa Go.Proofs.Ytklmcfpgdfibnaa.Eng
set_option linter.unusedVariables false
def ldB (os:List AG) (a b:Int):Bool:=decide (b∈K2 os (KA os (-1) (ob os (AB os a).toNat).field))
def muB (os:List AG) (a b:Int):Bool:=ldB os a b&&ldB os b a
theorem bW (os:List AG) (a b:Int):muB os a b=muB os b a:=Bool.and_comm _ _
theorem R0 {x:Hp} (hk:BO x) {a b:Int} {k m:Nat} (ha:AB x.AA a=(k:Int)) (hb:AB x.AA b=(m:Int)):ldB x.AA a b=true↔RB x.AA (ob x.AA k).field m:=by
 unfold ldB
 rw [decide_eq_true_eq,ha,Int.toNat_natCast]
 obtain ⟨m8,mv,eb⟩:=sH hk hb
 rw [eb]
 exact TW hk m8 mv
theorem X2 {os:List AG} {k m:Nat}:RB os (ob os k).field m↔ ∃j:Nat,(j:Int)∈BQ os k∧Reach os j m:=by
 constructor
 ·rintro ⟨f,hf,s,hs,hr⟩
  exact ⟨s,FW.2 ⟨by omega,f,hf,hs⟩,hr⟩
 ·rintro ⟨j,hj,hr⟩
  obtain ⟨_,f,hf,hs⟩:=FW.1 hj
  exact ⟨f,hf,j,hs,hr⟩
theorem XR {os:List AG} {a b c:Nat} (h1:RB os (ob os a).field b) (h2:RB os (ob os b).field c):RB os (ob os a).field c:=by
 obtain ⟨j,hj,hr⟩:=X2.1 h1
 obtain ⟨i,hi,hs⟩:=X2.1 h2
 refine X2.2 ⟨j,hj,(Reach.step hr hi).trans ?_⟩
 rw [Int.toNat_natCast];exact hs
theorem O1 {x:Hp} (hk:BO x) {a b c:Int} (ha:0≤AB x.AA a) (hb:0≤AB x.AA b) (hc:0≤AB x.AA c) (h1:ldB x.AA a b=true) (h2:ldB x.AA b c=true):ldB x.AA a c=true:=by
 obtain ⟨k,ek⟩: ∃k:Nat,AB x.AA a=k:=⟨(AB x.AA a).toNat,by omega⟩
 obtain ⟨m,em⟩: ∃k:Nat,AB x.AA b=k:=⟨(AB x.AA b).toNat,by omega⟩
 obtain ⟨n,en⟩: ∃k:Nat,AB x.AA c=k:=⟨(AB x.AA c).toNat,by omega⟩
 rw [R0 hk ek em] at h1
 rw [R0 hk em en] at h2
 exact (R0 hk ek en).2 (XR h1 h2)
theorem CQ {x:Hp} (hk:BO x) {v:Int} (hv:v∈B2 x.AA):0≤AB x.AA v:=by
 obtain ⟨k,k8,kv,rfl⟩:=(KE hk).1 hv
 rw [JM hk k8 kv];omega
theorem cR {x:Hp} (hk:BO x) {a b c:Int} (ha:a∈B2 x.AA) (hb:b∈B2 x.AA) (hc:c∈B2 x.AA) (h1:muB x.AA a b=true) (h2:muB x.AA b c=true):muB x.AA a c=true:=by
 unfold muB at*
 rw [Bool.and_eq_true] at*
 have sa:=CQ hk ha
 have sb:=CQ hk hb
 have sc:=CQ hk hc
 exact ⟨O1 hk sa sb sc h1.1 h2.1,O1 hk sc sb sa h2.2 h1.2⟩
theorem PL {x:Hp} (hk:BO x):(B2 x.AA).Nodup:=by
 have e:B2 x.AA=pick (FE x.AA) 8:=by unfold B2;rw [hk.ol]
 rw [e]
 have key: ∀n,n≤8→(pick (FE x.AA) n).Nodup:=fun n=>by
  induction n with
  | zero=>intro _;exact List.nodup_nil
  | succ n ih=>
    intro hn
    show (pick (FE x.AA) n++FE x.AA n).Nodup
    refine List.nodup_append.2 ⟨ih (by omega), ?_,fun a ha b hb he=> ?_⟩
    ·unfold FE;split <;> simp
    ·subst he
     obtain ⟨i,hi,h1⟩:=KV.1 ha
     unfold FE at h1 hb
     split at h1
     ·rename_i c1
      split at hb
      ·rename_i c2
       have e1:=List.mem_singleton.1 h1
       have e2:=List.mem_singleton.1 hb
       have:=dX hk (show i<8 by omega) c1.2 (show n<8 by omega) c2.2 (by rw [←e1, ←e2])
       omega
      ·cases hb
     ·cases h1
 exact key 8 (Nat.le_refl _)
def KU (mu:Int→Int→Bool) (ids:List Int) (i:Nat):List Int:=gI ids i::(ids.drop (i+1)).filter (mu (gI ids i))
def I4 (mu:Int→Int→Bool) (ids:List Int):Nat→List (List Int)×List Int
 | 0=>([],[])
 | i+1=>if gI ids i∈(I4 mu ids i).2 then I4 mu ids i else ((I4 mu ids i).1++[KU mu ids i],(I4 mu ids i).2++KU mu ids i)
structure xF (mu:Int→Int→Bool) (ids:List Int) (i:Nat) (s:List (List Int)×List Int):Prop where
 fl:s.2=s.1.flatten
 nd:s.2.Nodup
 sub: ∀x∈s.2,x∈ids
 all: ∀j,j<i→gI ids j∈s.2
 form: ∀g∈s.1, ∃j,j<i∧j<ids.length∧g=KU mu ids j
 apart:s.1.Pairwise fun a b=>mu (gI b 0) (gI a 0)=false
theorem nH {ids:List Int} {i j:Nat} (h:j<i) (hi:i<ids.length):gI ids i∈ids.drop (j+1):=by
 rw [←CM hi]
 exact List.mem_drop_iff_getElem.2 ⟨i-(j+1),by omega,by congr 1;omega⟩
theorem aU {mu:Int→Int→Bool} {ids:List Int} (hn:ids.Nodup) (hs: ∀a b,mu a b=mu b a) (ht: ∀a∈ids, ∀b∈ids, ∀c∈ids,mu a b=true→mu b c=true→mu a c=true): ∀i,i≤ids.length→xF mu ids i (I4 mu ids i)
 | 0,_=>⟨rfl,List.nodup_nil,by simp [I4],by simp,by simp [I4],List.Pairwise.nil⟩
 | i+1,hi=>by
   have h:=aU hn hs ht i (by omega)
   have hil:i<ids.length:=by omega
   have hm:gI ids i∈ids:=CH hil
   simp only [I4]
   split
   ·rename_i hd
    exact ⟨h.fl,h.nd,h.sub,fun j hj=>by
     by_cases hji:j=i
     ·subst hji;exact hd
     ·exact h.all j (by omega),fun g hg=>by obtain ⟨j,a,b,c⟩:=h.form g hg;exact ⟨j,by omega,b,c⟩,h.apart⟩
   ·rename_i hd
    have key: ∀g∈(I4 mu ids i).1,mu (gI g 0) (gI ids i)=false:=fun g hg=>by
     obtain ⟨j,hj,hjl,rfl⟩:=h.form g hg
     cases hmu:mu (gI (KU mu ids j) 0) (gI ids i) with
     | false=>rfl
     | true=>
       exfalso
       apply hd
       rw [h.fl]
       refine List.mem_flatten.2 ⟨_,hg, ?_⟩
       unfold KU
       exact List.mem_cons_of_mem _ (List.mem_filter.2 ⟨nH hj hil,hmu⟩)
    have gsub: ∀x∈KU mu ids i,x∈ids:=fun x hx=>by
     unfold KU at hx
     rcases List.mem_cons.1 hx with rfl | hx
     ·exact hm
     ·exact List.mem_of_mem_drop (List.mem_filter.1 hx).1
    refine ⟨?_, ?_, ?_, ?_, ?_, ?_⟩
    ·rw [h.fl,List.flatten_append];simp
    ·refine List.nodup_append.2 ⟨h.nd, ?_,fun x hx y hy he=> ?_⟩
     ·unfold KU
      have hd2:ids.drop i=gI ids i::ids.drop (i+1):=by rw [List.drop_eq_getElem_cons hil,CM hil]
      have hnd:=hn.sublist (List.drop_sublist i ids)
      rw [hd2] at hnd
      have:=List.nodup_cons.1 hnd
      exact List.nodup_cons.2 ⟨fun hh=>this.1 (List.mem_filter.1 hh).1,this.2.sublist List.filter_sublist⟩
     ·subst he
      rw [h.fl] at hx
      obtain ⟨g,hg,hxg⟩:=List.mem_flatten.1 hx
      have k1:=key g hg
      obtain ⟨j,hj,hjl,rfl⟩:=h.form g hg
      have hjm:gI ids j∈ids:=CH hjl
      have k1:mu (gI ids j) (gI ids i)=false:=k1
      have hx1:x=gI ids j∨mu (gI ids j) x=true:=by
       unfold KU at hxg
       rcases List.mem_cons.1 hxg with rfl | hh
       ·exact .inl rfl
       ·exact .inr (List.mem_filter.1 hh).2
      have hx2:x=gI ids i∨mu (gI ids i) x=true:=by
       unfold KU at hy
       rcases List.mem_cons.1 hy with rfl | hh
       ·exact .inl rfl
       ·exact .inr (List.mem_filter.1 hh).2
      have hxm:=gsub x hy
      have:mu (gI ids j) (gI ids i)=true:=by
       rcases hx2 with rfl | hx2
       ·rcases hx1 with e | hx1
        ·exfalso;apply hd;rw [h.fl];exact hx
        ·exact hx1
       ·rw [hs] at hx2
        rcases hx1 with rfl | hx1
        ·exact hx2
        ·exact ht _ hjm _ hxm _ hm hx1 hx2
      rw [k1] at this;cases this
    ·intro x hx
     rcases List.mem_append.1 hx with hx | hx
     ·exact h.sub x hx
     ·exact gsub x hx
    ·intro j hj
     by_cases hji:j=i
     ·subst hji;exact List.mem_append_right _ (by unfold KU;simp)
     ·exact List.mem_append_left _ (h.all j (by omega))
    ·intro g hg
     rcases List.mem_append.1 hg with hg | hg
     ·obtain ⟨j,a,b,c⟩:=h.form g hg;exact ⟨j,by omega,b,c⟩
     ·exact ⟨i,by omega,hil,List.mem_singleton.1 hg⟩
    ·refine List.pairwise_append.2 ⟨h.apart,by simp,fun a ha b hb=> ?_⟩
     rw [List.mem_singleton.1 hb]
     have:=key a ha
     rw [hs] at this
     exact this
def VA (os:List AG):List (List Int):=(I4 (muB os) (B2 os) (B2 os).length).1
theorem cA {x:Hp} (hk:BO x):xF (muB x.AA) (B2 x.AA) (B2 x.AA).length (I4 (muB x.AA) (B2 x.AA) (B2 x.AA).length):=
 aU (PL hk) (bW _) (fun a ha b hb c hc=>cR hk ha hb hc) _ (Nat.le_refl _)
theorem ZK {x:Hp} (hk:BO x):(VA x.AA).flatten.Perm (B2 x.AA):=by
 have h:=cA hk
 have e:(VA x.AA).flatten=(I4 (muB x.AA) (B2 x.AA) (B2 x.AA).length).2:=h.fl.symm
 rw [e]
 refine (List.perm_ext_iff_of_nodup h.nd (PL hk)).2 fun v=>⟨h.sub v,fun hv=> ?_⟩
 obtain ⟨j,hj,rfl⟩:=List.getElem_of_mem hv
 rw [CM hj];exact h.all j hj
theorem JA {x:Hp} (hk:BO x) {g:List Int} (hg:g∈VA x.AA):0<g.length∧(∀v∈g,v∈B2 x.AA)∧ ∀j,0<j→j<g.length→muB x.AA (gI g 0) (gI g j)=true:=by
 have h:=cA hk
 obtain ⟨i,hi,hil,rfl⟩:=h.form g hg
 refine ⟨by simp [KU],fun v hv=>h.sub v (by rw [h.fl];exact List.mem_flatten.2 ⟨_,hg,hv⟩),fun j hj hl=> ?_⟩
 unfold KU at hl ⊢
 have e0:gI (gI (B2 x.AA) i::((B2 x.AA).drop (i+1)).filter (muB x.AA (gI (B2 x.AA) i))) 0=gI (B2 x.AA) i:=rfl
 rw [e0]
 obtain ⟨j,rfl⟩: ∃j',j=j'+1:=⟨j-1,by omega⟩
 simp only [List.length_cons] at hl
 have hl':j<(((B2 x.AA).drop (i+1)).filter (muB x.AA (gI (B2 x.AA) i))).length:=by omega
 have e1:gI (gI (B2 x.AA) i::((B2 x.AA).drop (i+1)).filter (muB x.AA (gI (B2 x.AA) i))) (j+1)=gI (((B2 x.AA).drop (i+1)).filter (muB x.AA (gI (B2 x.AA) i))) j:=rfl
 rw [e1, ←CM hl']
 exact (List.mem_filter.1 (List.getElem_mem hl')).2
theorem W6 {x:Hp} (hk:BO x):(VA x.AA).length≤8∧ ∀g∈VA x.AA,g.length≤8:=by
 have hp:=(ZK hk).length_eq
 have ll:=GN x.AA
 have:=hk.ol
 have hf: ∀{l:List (List Int)},(∀g∈l,0<g.length)→l.length≤l.flatten.length∧ ∀g∈l,g.length≤l.flatten.length:=fun {l}=>by
  induction l with
  | nil=>intro _;simp
  | cons a l ih=>
    intro h
    obtain ⟨i1,i2⟩:=ih fun g hg=>h g (by simp [hg])
    have:=h a (by simp)
    refine ⟨by simp only [List.length_cons,List.flatten_cons,List.length_append];omega,fun g hg=> ?_⟩
    simp only [List.flatten_cons,List.length_append]
    rcases List.mem_cons.1 hg with rfl | hg
    ·omega
    ·have:=i2 g hg;omega
 obtain ⟨h1,h2⟩:=hf fun g hg=>(JA hk hg).1
 exact ⟨by omega,fun g hg=>by have:=h2 g hg;omega⟩
def isRing (os:List AG) (g:List Int):Bool:=decide (g.length>1)||ldB os (gI g 0) (gI g 0)
def U5 (os:List AG):List (List Int):=(VA os).filter (isRing os)
def O0 (os:List AG):List (List Int):=(U5 os).filter fun g=>decide (gI g 0∈IG os)
theorem X8 {x:Hp} (hk:BO x) {v:Int} (hv:v∈B2 x.AA):ldB x.AA v v=true↔ ∃g∈U5 x.AA,v∈g:=by
 have sv:=CQ hk hv
 constructor
 ·intro h
  obtain ⟨g,hg,hvg⟩:=List.mem_flatten.1 ((ZK hk).mem_iff.2 hv)
  refine ⟨g,List.mem_filter.2 ⟨hg, ?_⟩,hvg⟩
  unfold isRing
  by_cases hl:g.length>1
  ·simp [hl]
  ·have:=(JA hk hg).1
   obtain ⟨j,hj,he⟩:=List.getElem_of_mem hvg
   have:j=0:=by omega
   subst this
   rw [CM hj] at he
   rw [he,h];simp
 ·rintro ⟨g,hg,hvg⟩
  obtain ⟨hg,hr⟩:=List.mem_filter.1 hg
  obtain ⟨g1,g2,g3⟩:=JA hk hg
  have s0:=CQ hk (g2 _ (CH g1))
  obtain ⟨j,hj,he⟩:=List.getElem_of_mem hvg
  rw [CM hj] at he
  unfold isRing at hr
  rw [Bool.or_eq_true,decide_eq_true_eq] at hr
  by_cases hj0:j=0
  ·subst hj0
   rcases hr with hr | hr
   ·have m:=g3 1 (by omega) hr
    unfold muB at m
    rw [Bool.and_eq_true] at m
    rw [←he]
    exact O1 hk s0 (CQ hk (g2 _ (CH hr))) s0 m.1 m.2
   ·rw [←he];exact hr
  ·have m:=g3 j (by omega) hj
   unfold muB at m
   rw [Bool.and_eq_true,he] at m
   exact O1 hk sv s0 sv m.2 m.1
theorem mC {l:List Nat} {p q:Nat→Bool} (h: ∀x∈l,p x=true→q x=true) {y:Nat} (hy:y∈l) (h1:q y=true) (h2:p y=false):l.countP p<l.countP q:=by
 induction l with
 | nil=>simp at hy
 | cons a l ih=>
   have hm:l.countP p≤l.countP q:=List.countP_mono_left fun x hx hp=>h x (by simp [hx]) hp
   rw [List.countP_cons,List.countP_cons]
   rcases List.mem_cons.1 hy with rfl | hy
   ·rw [if_pos h1,if_neg (by rw [h2];decide)];omega
   ·have:=ih (fun x hx=>h x (by simp [hx])) hy
    by_cases hp:p a=true
    ·rw [if_pos hp,if_pos (h a (by simp) hp)];omega
    ·rw [if_neg hp];split <;> omega
theorem S1 {x:Hp} (hk:BO x) {v:Int}:v∈IG x.AA↔ ∃k:Nat,k<8∧(ob x.AA k).live=true∧v=B6 k (ob x.AA k).gen∧ ¬Rch x.AA k:=by
 unfold IG
 rw [List.mem_filter,decide_eq_true_eq,KE hk,lX hk]
 constructor
 ·rintro ⟨⟨k,k8,kv,rfl⟩,h⟩
  exact ⟨k,k8,kv,rfl,fun hr=>h ⟨k,k8,kv,rfl,(kD hk).2 hr⟩⟩
 ·rintro ⟨k,k8,kv,rfl,h⟩
  refine ⟨⟨k,k8,kv,rfl⟩, ?_⟩
  rintro ⟨m,m8,mv,e,hr⟩
  have:=dX hk k8 kv m8 mv e
  subst this
  exact h ((kD hk).1 hr)
theorem Rch.on {os:List AG} {a b:Nat} (h:Rch os a) (hr:RB os (ob os a).field b):Rch os b:=by
 obtain ⟨e,he,h⟩:=h
 obtain ⟨j,hj,hr⟩:=X2.1 hr
 refine ⟨e,he,(Reach.step h hj).trans ?_⟩
 rw [Int.toNat_natCast];exact hr
theorem Y5 {x:Hp} (hk:BO x) {k:Nat} (k8:k<8) (kv:(ob x.AA k).live=true) (hn: ¬Rch x.AA k): ∃j,j<8∧(ob x.AA j).live=true∧ ¬Rch x.AA j∧RB x.AA (ob x.AA j).field k:=by
 have hr:=hk.hr k
 rcases hk.hp.held k8 kv with h | ⟨j,j8,jv,jm⟩
 ·exact absurd ⟨k,⟨k8,kv,h⟩, .refl⟩ hn
 ·have hl:RB x.AA (ob x.AA j).field k:=⟨_,jm,k,JM hk k8 kv, .refl⟩
  exact ⟨j,j8,jv,fun hh=>hn (hh.on hl),hl⟩
open Classical in
theorem ZM {x:Hp} (hk:BO x): ∀n k,(List.range 8).countP (fun s=>decide (RB x.AA (ob x.AA s).field k))≤n→k<8→(ob x.AA k).live=true→ ¬Rch x.AA k→ ∃z,z<8∧(ob x.AA z).live=true∧ ¬Rch x.AA z∧RB x.AA (ob x.AA z).field z∧RB x.AA (ob x.AA z).field k
 | 0,k,hn,k8,kv,hr=>by
   obtain ⟨j,j8,jv,jr,hl⟩:=Y5 hk k8 kv hr
   have:0<(List.range 8).countP (fun s=>decide (RB x.AA (ob x.AA s).field k)):=List.countP_pos_iff.2 ⟨j,List.mem_range.2 j8,decide_eq_true hl⟩
   omega
 | n+1,k,hn,k8,kv,hr=>by
   obtain ⟨j,j8,jv,jr,hl⟩:=Y5 hk k8 kv hr
   by_cases hj:RB x.AA (ob x.AA j).field j
   ·exact ⟨j,j8,jv,jr,hj,hl⟩
   ·have hc:=mC (l:=List.range 8) (p:=fun s=>decide (RB x.AA (ob x.AA s).field j)) (q:=fun s=>decide (RB x.AA (ob x.AA s).field k)) (fun s _ hs=>decide_eq_true (XR (of_decide_eq_true hs) hl)) (List.mem_range.2 j8) (decide_eq_true hl) (decide_eq_false hj)
    obtain ⟨z,z8,zv,zr,zz,zj⟩:=ZM hk n j (by omega) j8 jv jr
    exact ⟨z,z8,zv,zr,zz,XR zj hl⟩
theorem s7 {x:Hp} (hk:BO x) {v:Int} (hv:v∈IG x.AA):(ldB x.AA v v=true↔ ∃g∈O0 x.AA,v∈g)∧ ∃g∈O0 x.AA,ldB x.AA (gI g 0) v=true:=by
 obtain ⟨k,k8,kv,ev,hr⟩:=(S1 hk).1 hv
 have hvl:v∈B2 x.AA:=(KE hk).2 ⟨k,k8,kv,ev⟩
 have sk:AB x.AA v=(k:Int):=by rw [ev];exact JM hk k8 kv
 have head: ∀g∈U5 x.AA, ∀z:Nat,z<8→(ob x.AA z).live=true→ ¬Rch x.AA z→B6 z (ob x.AA z).gen∈g→g∈O0 x.AA∧(gI g 0=B6 z (ob x.AA z).gen∨ldB x.AA (gI g 0) (B6 z (ob x.AA z).gen)=true):=fun g hg z z8 zv zr hz=>by
  obtain ⟨hg',_⟩:=List.mem_filter.1 hg
  obtain ⟨g1,g2,g3⟩:=JA hk hg'
  have hm:=g2 _ (CH g1)
  obtain ⟨m,m8,mv,em⟩:=(KE hk).1 hm
  have sz:=JM hk z8 zv
  have sm:AB x.AA (gI g 0)=(m:Int):=by rw [em];exact JM hk m8 mv
  obtain ⟨j,hj,he⟩:=List.getElem_of_mem hz
  rw [CM hj] at he
  by_cases hj0:j=0
  ·subst hj0
   refine ⟨List.mem_filter.2 ⟨hg,decide_eq_true ((S1 hk).2 ⟨z,z8,zv,he,zr⟩)⟩, .inl he⟩
  ·have mu:=g3 j (by omega) hj
   unfold muB at mu
   rw [Bool.and_eq_true,he] at mu
   have l1:=(R0 hk sm sz).1 mu.1
   exact ⟨List.mem_filter.2 ⟨hg,decide_eq_true ((S1 hk).2 ⟨m,m8,mv,em,fun hh=>zr (hh.on l1)⟩)⟩, .inr mu.1⟩
 refine ⟨⟨fun h=> ?_,fun ⟨g,hg,hvg⟩=>(X8 hk hvl).2 ⟨g,(List.mem_filter.1 hg).1,hvg⟩⟩, ?_⟩
 ·obtain ⟨g,hg,hvg⟩:=(X8 hk hvl).1 h
  exact ⟨g,(head g hg k k8 kv hr (by rw [←ev];exact hvg)).1,hvg⟩
 ·obtain ⟨z,z8,zv,zr,zz,zk⟩:=ZM hk _ k (Nat.le_refl _) k8 kv hr
  have sz:=JM hk z8 zv
  have hzl:B6 z (ob x.AA z).gen∈B2 x.AA:=(KE hk).2 ⟨z,z8,zv,rfl⟩
  obtain ⟨g,hg,hzg⟩:=(X8 hk hzl).1 ((R0 hk sz sz).2 zz)
  obtain ⟨h1,h2⟩:=head g hg z z8 zv zr hzg
  refine ⟨g,h1, ?_⟩
  have lz:=(R0 hk sz sk).2 zk
  rcases h2 with h2 | h2
  ·rw [h2];exact lz
  ·have hm:=(JA hk (List.mem_filter.1 hg).1)
   exact O1 hk (CQ hk (hm.2.1 _ (CH hm.1))) (by omega) (by omega) h2 lz
end Go.Proofs.Ytklmcfpgdfibnaa.P
namespace Go.Proofs.Ytklmcfpgdfibnaa.P
open Go Go.Proofs.Ytklmcfpgdfibnaa Go.Proofs.Ytklmcfpgdfibnaa.Eng
set_option linter.unusedVariables false
theorem oN {n a:Nat} (h:a≤n) {K:Value→Value→Prop} (hK:K (iv a) (iv (n-a))):scW n (some (iv a)) none K:=⟨a,n,rfl,rfl,h,Nat.le_refl _,hK⟩
theorem xE {l:List Int} {i:Nat} {K:Value→Prop} (hi:i<l.length) (h:K (I (gI l i))):ldc (tI l) [] i K:=⟨_,by rw [←CM hi];exact eX hi,h⟩
def tGe:Option (List Int)→T
 | some g=> .l 1 (tI g)
 | none=> .x
def tGo (l:List (Option (List Int))):List T:=l.map tGe
abbrev tG (l:List (List Int)):List T:=tGo (l.map some)
theorem IB (l:List (Option (List Int))):cnt 1 (tGo l)=l.length:=by simp [cnt,tGo]
theorem T9 {l:List (Option (List Int))} {i:Nat} {g:List Int} (h:l[i]? =some (some g)):(tGo l)[i]? =some (.l 1 (tI g)):=by simp [tGo,h,tGe]
theorem QC (l:List (List Int)) (g:List Int):tG l++[T.l 1 (tI g)]=tG (l++[g]):=by simp [tG,tGo,tGe]
section
variable {l:List (Option (List Int))} {i:Nat} {g:List Int}
theorem SA {K:Value→Prop} (h:l[i]? =some (some g)) (hK:K (iv 0)):ldl (tGo l) [] (AD (iv i)*1) 1 K:=by
 rw [BB,Nat.mul_one]
 exact ⟨⟨tI g,T9 h⟩,hK⟩
theorem OE (h:l[i]? =some (some g)):EK (tGo l) [AD (iv i)*1]=tI g:=by
 rw [BB,Nat.mul_one]
 simp [EK,node,T9 h]
theorem RJ {j:Nat} {K:Value→Prop} (h:l[i]? =some (some g)) (hj:j<g.length) (hK:K (I (gI g j))):ldc (tGo l) [AD (iv i)*1] (AD (iv j)*1) K:=by
 rw [BB,BB,Nat.mul_one,Nat.mul_one]
 refine ⟨I (gI g j), ?_,hK⟩
 unfold cell
 simp only [node,T9 h,Option.bind_some]
 rw [←CM hj];exact eX hj
theorem aL {K:List T→Prop} (h:l[i]? =some (some g)) (hK:K [T.l 1 (tI g)]):ldg (tGo l) [] (AD (iv i)*1) [.l 1] K:=by
 rw [BB,Nat.mul_one]
 refine ⟨_, ?_,rfl,hK⟩
 unfold HW
 simp only [node,List.length_singleton]
 rw [List.take_one,List.head?_drop,T9 h];rfl
theorem jT {K:List T→List T→Prop} (h:l[i]? =some (some g)) (hK:K (tI g) (tGo (l.set i none))):mvW (tGo l) [] (AD (iv i)*1) 1 K:=by
 rw [BB,Nat.mul_one]
 refine ⟨tI g,T9 h, ?_⟩
 have hl:i<(tGo l).length:=(List.getElem?_eq_some_iff.1 (T9 h)).1
 have e:IZ (tGo l) [] i [.x]=tGo (l.set i none):=by
  unfold IZ
  simp only [node,GU]
  rw [V9 hl]
  unfold tGo
  rw [List.map_set];rfl
 rw [e];exact hK
end
def gG (l:List (List Int)) (i:Nat):List Int:=l.getD i []
theorem X7 {l:List (List Int)} {i:Nat} (h:i<l.length):l[i]=gG l i:=by simp [gG,h]
theorem jH {l:List (List Int)} {i:Nat} (h:i<l.length):(l.map some)[i]? =some (some (gG l i)):=by rw [List.getElem?_map,List.getElem?_eq_getElem h,X7 h];rfl
theorem O4 {l:List (List Int)} {i:Nat} (h:i<l.length):gG l i∈l:=by rw [←X7 h];exact List.getElem_mem h
def K8 (l:List (List Int)) (i:Nat) (lo:List (Option (List Int))):Prop:=lo.length=l.length∧ ∀j,i≤j→j<l.length→lo[j]? =some (some (gG l j))
theorem K8.start (l:List (List Int)):K8 l 0 (l.map some):=⟨by simp,fun j _ hj=>jH hj⟩
theorem K8.next {l:List (List Int)} {i:Nat} {lo:List (Option (List Int))} (h:K8 l i lo):K8 l (i+1) lo:=⟨h.1,fun j hj hl=>h.2 j (by omega) hl⟩
theorem K8.gone {l:List (List Int)} {i:Nat} {lo:List (Option (List Int))} (h:K8 l i lo):K8 l (i+1) (lo.set i none):=⟨by simp [h.1],fun j hj hl=>by rw [List.getElem?_set_ne (by omega)];exact h.2 j (by omega) hl⟩
theorem JE {α:Type} {l:List α} {p:α→Bool} {i:Nat} (hi:i<l.length):(l.take (i+1)).filter p=(l.take i).filter p++if p l[i]=true then [l[i]] else []:=by
 rw [List.take_succ_eq_append_getElem hi,List.filter_append]
 congr 1
 rw [List.filter_cons,List.filter_nil]
set_option maxHeartbeats 4000000
set_option linter.unusedVariables false
set_option linter.unusedSimpArgs false
attribute [local irreducible] prP gP gE gF A6 ixW ldc ldg ldl stc stg scW mkW apW BD cl2 BP C3 B9
variable {w0:World}
theorem N8 {x:Hp} {a b:Int} {K:J2} (hk:BO x) (fa:F64 a) (fb:F64 b) (ha:0≤AB x.AA a) (hb:0≤AB x.AA b) (h:K [.bool (ldB x.AA a b)] []):cl2 ⟨Try.prog,w0⟩ 26 DF.sg [I a,I b] (trees x) K:=by
 obtain ⟨k,ek⟩: ∃k:Nat,AB x.AA a=k:=⟨(AB x.AA a).toNat,by omega⟩
 obtain ⟨m,em⟩: ∃k:Nat,AB x.AA b=k:=⟨(AB x.AA b).toNat,by omega⟩
 refine bF hk fa fb ek em ?_
 unfold ldB at h
 rw [ek,Int.toNat_natCast] at h
 exact h
theorem OJ {x:Hp} {a b:Int} {K:J2} (hk:BO x) (fa:F64 a) (fb:F64 b) (ha:0≤AB x.AA a) (hb:0≤AB x.AA b) (h:K [.bool (ldB x.AA a b)] []):cl2 ⟨Try.prog,w0⟩ 64 DY.sg [I a,I b] (trees x) K:=by
 have ol8:=hk.ol
 have hof:=(hk.st hk.I6).of
 obtain ⟨k,ek⟩: ∃k:Nat,AB x.AA a=k:=⟨(AB x.AA a).toNat,by omega⟩
 obtain ⟨m,em⟩: ∃k:Nat,AB x.AA b=k:=⟨(AB x.AA b).toNat,by omega⟩
 have k8:=(IA ek).1
 have hld:=R0 hk ek em
 refine DY.cl2 ?_
 unfold DY.txt
 try simp only [trees]
 try simp only [AI,AP,AN,AS,AK,AE,AJ,AH,AM,AT,AL,AR,AO,AQ,BC,BE,BF,BJ,BL,BK,BH,AW,A5,AZ,A4,AY,AX]
 refine IN fa (by omega) (IN fb (by omega) ?_)
 rw [ek,em]
 have p1: ¬(k:Int)<0:=by omega
 refine A9 (BG (C7 p1 (A9 (ER p1 rfl (DU (by omega) (PM ol8 hof k8 ?_))))))
 have kl:=NR hof (k:=k) (by omega)
 obtain ⟨ks,hks⟩: ∃ks,BQ x.AA k=ks:=⟨_,rfl⟩
 have hkb: ∀j∈ks, ∃i:Nat,j=(i:Int)∧i<8∧(ob x.AA i).live=true:=fun j hj=>by
  rw [←hks] at hj
  have:=B8 hj
  exact ⟨j.toNat,by omega,this.2.1,this.2.2.2.2⟩
 have hrb:RB x.AA (ks.map (idO x.AA)) m↔RB x.AA (ob x.AA k).field m:=by
  rw [X2,hks]
  constructor
  ·rintro ⟨v,hv,s,hs,hr⟩
   obtain ⟨j,hj,rfl⟩:=List.mem_map.1 hv
   obtain ⟨i,rfl,i8,iv'⟩:=hkb j hj
   unfold idO at hs
   rw [Int.toNat_natCast,JM hk i8 iv'] at hs
   have:i=s:=by omega
   subst this
   exact ⟨i,hj,hr⟩
  ·rintro ⟨j,hj,hr⟩
   obtain ⟨i,e,i8,iv'⟩:=hkb _ hj
   have:j=i:=by omega
   subst this
   refine ⟨idO x.AA (j:Int),List.mem_map.2 ⟨_,hj,rfl⟩,j, ?_,hr⟩
   unfold idO
   rw [Int.toNat_natCast];exact JM hk i8 iv'
 rw [hks] at kl ⊢
 simp only [AI,AP,AN,AS,AK,AE,AJ,AH,AM,AT,AL,AR,AO,AQ,BC,BE,BF,BJ,BL,BK,BH,AW,A5,AZ,A4,AY,AX]
 refine BM (fun i=>[iv m,iv ks.length,iv i]) (fun i=>[tI ((ks.take i).map (idO x.AA)),tI ks]) ks.length (fun _=>True) rfl rfl trivial (fun R i hi _ hR=> ?_)
 have tl:((ks.take i).map (idO x.AA)).length=i:=by rw [List.length_map,List.length_take];omega
 simp only [AI,AP,AN,AS,AK,AE,AJ,AH,AM,AT,AL,AR,AO,AQ,BC,BE,BF,BJ,BL,BK,BH,AW,A5,AZ,A4,AY,AX]
 refine A9 (A7 (fun hlt=> ?_) fun hge=> ?_)
 ·have hlt:i<ks.length:=by omega
  have hR:=hR hlt trivial
  obtain ⟨j,ej,j8,jv⟩:=hkb _ (CH hlt)
  refine AU hlt (ldI hlt ?_)
  rw [ej]
  refine AU (by omega) (HQ (c:=1) (by omega) (by decide) rfl (MU (DG rfl (by first | omega | (simp only [AI,AP,AN,AS,AK,AE,AJ,AH,AM,AT,AL,AR,AO,AQ,BC,BE,BF,BJ,BL,BK,BH,AW,A5,AZ,A4,AY,AX];omega)) (A8 (by omega) ?_))))
  rw [List.take_succ_eq_append_getElem hlt,List.map_append,CM hlt,ej] at hR
  have e2:[(j:Int)].map (idO x.AA)=[B6 (j:Int) (ob x.AA j).gen]:=by simp [idO]
  rw [e2, ←C4] at hR
  exact hR
 ·have:i=ks.length:=by omega
  subst this
  rw [List.take_length]
  have il:(ks.map (idO x.AA)).length=ks.length:=by simp
  refine Q5 (x:=x) (but:= -1) hk.fits hof (fun v hv=> ?_) (by omega) (by omega) ?_
  ·obtain ⟨j,hj,rfl⟩:=List.mem_map.1 hv
   unfold idO
   exact BV (by have:=VJ j (ob x.AA j.toNat).gen;omega)
  obtain ⟨q1,q2⟩:=QG x.AA (-1) (ks.map (idO x.AA))
  have ql:=q1.len
  have sl:(slQ (KA x.AA (-1) (ks.map (idO x.AA)))).length=(KA x.AA (-1) (ks.map (idO x.AA))).length:=by simp
  simp only [AI,AP,AN,AS,AK,AE,AJ,AH,AM,AT,AL,AR,AO,AQ,BC,BE,BF,BJ,BL,BK,BH,AW,A5,AZ,A4,AY,AX]
  refine IQ (x:=(m:Int)) (by omega) ?_
  have e:decide ((m:Int)∈slQ (KA x.AA (-1) (ks.map (idO x.AA))))=ldB x.AA a b:=by
   rw [Bool.eq_iff_iff,decide_eq_true_eq,hld, ←hrb]
   show inQ _ _↔_
   rw [q2 m,sW]
  rw [e];exact h
theorem cS {x:Hp} (hk:BO x) {i:Nat} (hi:i≤(B2 x.AA).length):(I4 (muB x.AA) (B2 x.AA) i).2.length≤8∧(I4 (muB x.AA) (B2 x.AA) i).1.length≤8:=by
 have h:=aU (PL hk) (bW _) (fun a ha b hb c hc=>cR hk ha hb hc) i hi
 have ll:=GN x.AA
 have:=hk.ol
 have n1:=mJ h.nd h.sub
 refine ⟨by omega, ?_⟩
 have hf: ∀{l:List (List Int)},(∀g∈l,0<g.length)→l.length≤l.flatten.length:=fun {l}=>by
  induction l with
  | nil=>intro _;simp
  | cons a l ih=>
    intro h
    have i1:=ih fun g hg=>h g (by simp [hg])
    have:=h a (by simp)
    simp only [List.length_cons,List.flatten_cons,List.length_append];omega
 have:=hf (l:=(I4 (muB x.AA) (B2 x.AA) i).1) fun g hg=>by obtain ⟨j,_,_,rfl⟩:=h.form g hg;simp [KU]
 rw [←h.fl] at this
 omega
theorem YK {x:Hp} {K:J2} (hk:BO x) (h:K [] [tG (VA x.AA)]):cl2 ⟨Try.prog,w0⟩ 63 GJ.sg [] (trees x) K:=by
 have ol8:=hk.ol
 have hll:=fun i hi=>cS hk (i:=i) hi
 have hsl:=fun v hv=>CQ hk (v:=v) hv
 have hF: ∀v∈B2 x.AA,F64 v:=fun v hv=>BV (by have:=hk.HK (hsl v hv);omega)
 have ll:=GN x.AA
 refine GJ.cl2 ?_
 unfold GJ.txt
 try simp only [trees]
 try simp only [AI,AP,AN,AS,AK,AE,AJ,AH,AM,AT,AL,AR,AO,AQ,BC,BE,BF,BJ,BL,BK,BH,AW,A5,AZ,A4,AY,AX]
 refine CT (DU (by omega) (PU (by omega) ?_))
 unfold VA at h
 have hLd:=fun {a b:Int} {K:J2} (ha:a∈B2 x.AA) (hb:b∈B2 x.AA) (hK:K [.bool (ldB x.AA a b)] [])=>OJ (w0:=w0) (K:=K) hk (hF a ha) (hF b hb) (hsl a ha) (hsl b hb) hK
 generalize hm:B2 x.AA=m at h hll hsl hF ll hLd ⊢
 generalize hmu:muB x.AA=mu at h hll ⊢
 have mu_eq: ∀a b,mu a b=(ldB x.AA a b&&ldB x.AA b a):=fun a b=>by rw [←hmu];rfl
 clear hmu
 simp only [AI,AP,AN,AS,AK,AE,AJ,AH,AM,AT,AL,AR,AO,AQ,BC,BE,BF,BJ,BL,BK,BH,AW,A5,AZ,A4,AY,AX]
 refine BM (fun i=>[iv m.length,iv i]) (fun i=>[tG (I4 mu m i).1,tI (I4 mu m i).2,tI m]) m.length (fun _=>True) rfl rfl trivial (fun R i hi _ hR=> ?_)
 obtain ⟨l1,l2⟩:=hll i hi
 simp only [AI,AP,AN,AS,AK,AE,AJ,AH,AM,AT,AL,AR,AO,AQ,BC,BE,BF,BJ,BL,BK,BH,AW,A5,AZ,A4,AY,AX]
 refine A9 (A7 (fun hlt=>BW ?_) fun hge=> ?_)
 ·have hlt:i<m.length:=by omega
  have hR:=hR hlt trivial
  have es:I4 mu m (i+1)=if gI m i∈(I4 mu m i).2 then I4 mu m i else ((I4 mu m i).1++[KU mu m i],(I4 mu m i).2++KU mu m i):=rfl
  rw [es] at hR
  have l3:=(hll (i+1) hlt)
  rw [es] at l3
  generalize I4 mu m i=st at hR l1 l2 l3 ⊢
  obtain ⟨out,dn⟩:=st
  simp only at hR l1 l2 l3 ⊢
  refine AU hlt (ldI hlt (IQ (by omega) (A7 (fun hin=> ?_) fun hin=> ?_)))
  ·rw [if_pos hin] at hR
   exact A8 (by omega) hR
  ·rw [if_neg hin] at hR l3
   simp only [List.length_append] at l3
   refine A8 (by omega) (oN (by omega) ?_)
   have hda: ∀j,j<m.length-(i+1)→(m.drop (i+1)).length=m.length-(i+1)∧gI (m.drop (i+1)) j=gI m (i+1+j):=fun j hj=>by
    refine ⟨List.length_drop, ?_⟩
    unfold gI
    rw [List.getD_eq_getElem?_getD,List.getElem?_drop, ←List.getD_eq_getElem?_getD]
   have ham:gI m i∈m:=CH hlt
   refine BM (fun j=>[I (gI m i),iv m.length,iv i,iv (m.length-(i+1)),iv ((i+1)*1),iv (m.length-(i+1)),iv j]) (fun j=>[tG out,tI dn,tI m,tI (gI m i::((m.drop (i+1)).take j).filter (mu (gI m i)))]) (m.length-(i+1)) (fun _=>True) rfl rfl trivial (fun R2 j hj _ hR2=> ?_)
   have fl:((((m.drop (i+1)).take j).filter (mu (gI m i))).length)≤j:=Nat.le_trans (List.length_filter_le _ _) (by rw [List.length_take];omega)
   simp only [AI,AP,AN,AS,AK,AE,AJ,AH,AM,AT,AL,AR,AO,AQ,BC,BE,BF,BJ,BL,BK,BH,AW,A5,AZ,A4,AY,AX]
   simp only [BH,BB]
   refine A9 (A7 (fun hlj=>BW ?_) fun hgj=> ?_)
   ·have hlj:j<m.length-(i+1):=by omega
    obtain ⟨d1,d2⟩:=hda j hlj
    have hR2:=hR2 hlj trivial
    have hbl:i+1+j<m.length:=by omega
    have hbm:gI m (i+1+j)∈m:=CH hbl
    have eld: ∀{K:Value→Prop},K (I (gI m (i+1+j)))→ldc (tI m) [] ((i+1)*1+AD (iv j)*1) K:=fun hK=>by
     rw [BB,Nat.mul_one,Nat.mul_one];exact xE hbl hK
    rw [JE (by rw [d1];exact hlj),CM (by rw [d1];exact hlj),d2,mu_eq] at hR2
    refine AU hlj (eld (hLd ham hbm (BG (BG (BG ?_)))))
    cases e1:ldB x.AA (gI m i) (gI m (i+1+j)) with
    | false=>
      rw [e1] at hR2
      simp only [Bool.false_and,Bool.false_eq_true,if_false,List.append_nil] at hR2
      exact HJ (R1 rfl (B5 (A8 (by omega) hR2)))
    | true=>
      rw [e1] at hR2
      simp only [Bool.true_and] at hR2
      refine IH (hLd hbm ham (R6 rfl ?_))
      simp only [BC]
      cases e2:ldB x.AA (gI m (i+1+j)) (gI m i) with
      | false=>
        rw [e2] at hR2
        simp only [Bool.false_eq_true,if_false,List.append_nil] at hR2
        exact B5 (A8 (by omega) hR2)
      | true=>
        rw [e2] at hR2
        simp only [if_true] at hR2
        refine CE (DG rfl (by simp only [List.length_cons,AE,AH] at*;omega) (A8 (by omega) ?_))
        rw [C4]
        exact hR2
   ·have:j=m.length-(i+1):=by omega
    subst this
    have ed:(m.drop (i+1)).take (m.length-(i+1))=m.drop (i+1):=List.take_of_length_le (by rw [List.length_drop];omega)
    rw [ed]
    have eg:gI m i::(m.drop (i+1)).filter (mu (gI m i))=KU mu m i:=rfl
    have egl:(KU mu m i).length=(gI m i::(m.drop (i+1)).filter (mu (gI m i))).length:=rfl
    rw [eg]
    refine DG (KH _) (by first | omega | (simp only [AI,AP,AN,AS,AK,AE,AJ,AH,AM,AT,AL,AR,AO,AQ,BC,BE,BF,BJ,BL,BK,BH,AW,A5,AZ,A4,AY,AX];omega)) (US (by rw [IB,List.length_map];first | omega | (simp only [AH];omega)) (A8 (by omega) ?_))
    rw [QC]
    have e3:tI dn++tI (KU mu m i)=tI (dn++KU mu m i):=by simp [tI]
    rw [e3]
    exact hR
 ·have:i=m.length:=by omega
  subst this
  exact h
end Go.Proofs.Ytklmcfpgdfibnaa.P
namespace Go.Proofs.Ytklmcfpgdfibnaa.P
open Go Go.Proofs.Ytklmcfpgdfibnaa Go.Proofs.Ytklmcfpgdfibnaa.Eng
set_option linter.unusedVariables false
set_option maxHeartbeats 4000000
set_option linter.unusedVariables false
set_option linter.unusedSimpArgs false
attribute [local irreducible] prP gP gE gF A6 ixW ldc ldg ldl stc stg scW mkW apW BD cl2 BP C3 B9
variable {w0:World}
theorem YA {x:Hp} {K:J2} (hk:BO x) (h:K [] [tG (VA x.AA)]):cl2 ⟨Try.prog,w0⟩ 68 GG.sg [] (trees x) K:=by
 have ol8:=hk.ol
 have hll:=fun i hi=>cS hk (i:=i) hi
 have hsl:=fun v hv=>CQ hk (v:=v) hv
 have hF: ∀v∈B2 x.AA,F64 v:=fun v hv=>BV (by have:=hk.HK (hsl v hv);omega)
 have ll:=GN x.AA
 refine GG.cl2 ?_
 unfold GG.txt
 try simp only [trees]
 try simp only [AI,AP,AN,AS,AK,AE,AJ,AH,AM,AT,AL,AR,AO,AQ,BC,BE,BF,BJ,BL,BK,BH,AW,A5,AZ,A4,AY,AX]
 refine JG (by omega) (CT (DU (by omega) ?_))
 unfold VA at h
 have hLd:=fun {a b:Int} {K:J2} (ha:a∈B2 x.AA) (hb:b∈B2 x.AA) (hK:K [.bool (ldB x.AA a b)] [])=>N8 (w0:=w0) (K:=K) hk (hF a ha) (hF b hb) (hsl a ha) (hsl b hb) hK
 generalize hm:B2 x.AA=m at h hll hsl hF ll hLd ⊢
 generalize hmu:muB x.AA=mu at h hll ⊢
 have mu_eq: ∀a b,mu a b=(ldB x.AA a b&&ldB x.AA b a):=fun a b=>by rw [←hmu];rfl
 clear hmu
 simp only [AI,AP,AN,AS,AK,AE,AJ,AH,AM,AT,AL,AR,AO,AQ,BC,BE,BF,BJ,BL,BK,BH,AW,A5,AZ,A4,AY,AX]
 refine BM (fun i=>[iv i]) (fun i=>[tG (I4 mu m i).1,tI (I4 mu m i).2,tI m]) m.length (fun _=>True) rfl rfl trivial (fun R i hi _ hR=> ?_)
 obtain ⟨l1,l2⟩:=hll i hi
 simp only [AI,AP,AN,AS,AK,AE,AJ,AH,AM,AT,AL,AR,AO,AQ,BC,BE,BF,BJ,BL,BK,BH,AW,A5,AZ,A4,AY,AX]
 refine A9 (A7 (fun hlt=>BW ?_) fun hge=> ?_)
 ·have hlt:i<m.length:=by omega
  have hR:=hR hlt trivial
  have es:I4 mu m (i+1)=if gI m i∈(I4 mu m i).2 then I4 mu m i else ((I4 mu m i).1++[KU mu m i],(I4 mu m i).2++KU mu m i):=rfl
  rw [es] at hR
  have l3:=(hll (i+1) hlt)
  rw [es] at l3
  generalize I4 mu m i=st at hR l1 l2 l3 ⊢
  obtain ⟨out,dn⟩:=st
  simp only at hR l1 l2 l3 ⊢
  refine AU hlt (ldI hlt (FP (by omega) (A7 (fun hin=> ?_) fun hin=> ?_)))
  ·rw [if_pos hin] at hR
   exact A8 (by omega) hR
  ·rw [if_neg hin] at hR l3
   simp only [List.length_append] at l3
   refine AU hlt (ldI hlt (A8 (by omega) ?_))
   have ham:gI m i∈m:=CH hlt
   refine BM (fun j=>[iv i,iv (i+1+j)]) (fun j=>[tG out,tI dn,tI m,tI (gI m i::((m.drop (i+1)).take j).filter (mu (gI m i)))]) (m.length-(i+1)) (fun _=>True) rfl rfl trivial (fun R2 j hj _ hR2=> ?_)
   have fl:((((m.drop (i+1)).take j).filter (mu (gI m i))).length)≤j:=Nat.le_trans (List.length_filter_le _ _) (by rw [List.length_take];omega)
   simp only [AI,AP,AN,AS,AK,AE,AJ,AH,AM,AT,AL,AR,AO,AQ,BC,BE,BF,BJ,BL,BK,BH,AW,A5,AZ,A4,AY,AX]
   refine A9 (A7 (fun hlj=>BW ?_) fun hgj=> ?_)
   ·have hlj:j<m.length-(i+1):=by omega
    have hR2:=hR2 hlj trivial
    have hbl:i+1+j<m.length:=by omega
    have hbm:gI m (i+1+j)∈m:=CH hbl
    have d1:(m.drop (i+1)).length=m.length-(i+1):=List.length_drop
    have d2:gI (m.drop (i+1)) j=gI m (i+1+j):=by
     unfold gI
     rw [List.getD_eq_getElem?_getD,List.getElem?_drop, ←List.getD_eq_getElem?_getD]
    rw [JE (by rw [d1];exact hlj),CM (by rw [d1];exact hlj),d2,mu_eq] at hR2
    refine AU hlt (ldI hlt (AU hbl (ldI hbl (hLd ham hbm (BG (BG (BG ?_)))))))
    cases e1:ldB x.AA (gI m i) (gI m (i+1+j)) with
    | false=>
      rw [e1] at hR2
      simp only [Bool.false_and,Bool.false_eq_true,if_false,List.append_nil] at hR2
      refine HJ (HJ (BG (BG (HJ (HJ (HJ (R1 rfl (B5 (A8 (by omega) ?_)))))))))
      exact hR2
    | true=>
      rw [e1] at hR2
      simp only [Bool.true_and] at hR2
      refine IH (AU hbl (IH (ldI hbl (BG (BG (IH (AU hlt (IH (ldI hlt (IH (hLd hbm ham (R6 rfl ?_))))))))))))
      simp only [BC]
      cases e2:ldB x.AA (gI m (i+1+j)) (gI m i) with
      | false=>
        rw [e2] at hR2
        simp only [Bool.false_eq_true,if_false,List.append_nil] at hR2
        exact B5 (A8 (by omega) hR2)
      | true=>
        rw [e2] at hR2
        simp only [if_true] at hR2
        refine CE (AU hbl (ldI hbl (DG rfl (by simp only [List.length_cons,AE,AH] at*;omega) (A8 (by omega) ?_))))
        rw [C4]
        exact hR2
   ·have:j=m.length-(i+1):=by omega
    subst this
    have ed:(m.drop (i+1)).take (m.length-(i+1))=m.drop (i+1):=List.take_of_length_le (by rw [List.length_drop];omega)
    rw [ed]
    have eg:gI m i::(m.drop (i+1)).filter (mu (gI m i))=KU mu m i:=rfl
    have egl:(KU mu m i).length=(gI m i::(m.drop (i+1)).filter (mu (gI m i))).length:=rfl
    rw [eg]
    refine DG (KH _) (by first | omega | (simp only [AI,AP,AN,AS,AK,AE,AJ,AH,AM,AT,AL,AR,AO,AQ,BC,BE,BF,BJ,BL,BK,BH,AW,A5,AZ,A4,AY,AX];omega)) (US (by rw [IB,List.length_map];first | omega | (simp only [AH];omega)) (A8 (by omega) ?_))
    rw [QC]
    have e3:tI dn++tI (KU mu m i)=tI (dn++KU mu m i):=by simp [tI]
    rw [e3]
    exact hR
 ·have:i=m.length:=by omega
  subst this
  exact h
theorem ZV {x:Hp} {K:J2} (hk:BO x) (h:K [] [tG (U5 x.AA)]):cl2 ⟨Try.prog,w0⟩ 65 HA.sg [] (trees x) K:=by
 have hform:=fun g hg=>JA hk (g:=g) hg
 obtain ⟨gl8,ge8⟩:=W6 hk
 have hLd:=fun {a b:Int} {K:J2} (ha:a∈B2 x.AA) (hb:b∈B2 x.AA) (hK:K [.bool (ldB x.AA a b)] [])=>OJ (w0:=w0) (K:=K) hk (BV (by have:=hk.HK (CQ hk ha);omega)) (BV (by have:=hk.HK (CQ hk hb);omega)) (CQ hk ha) (CQ hk hb) hK
 refine HA.cl2 ?_
 unfold HA.txt
 try simp only [trees]
 try simp only [AI,AP,AN,AS,AK,AE,AJ,AH,AM,AT,AL,AR,AO,AQ,BC,BE,BF,BJ,BL,BK,BH,AW,A5,AZ,A4,AY,AX]
 refine YK hk ?_
 unfold U5 at h
 generalize VA x.AA=l at h hform gl8 ge8 ⊢
 simp only [AI,AP,AN,AS,AK,AE,AJ,AH,AM,AT,AL,AR,AO,AQ,BC,BE,BF,BJ,BL,BK,BH,AW,A5,AZ,A4,AY,AX]
 rw [IB,List.length_map]
 refine DJ (α:=Nat×List (Option (List Int))) (fun s=>[iv l.length,iv s.1]) (fun s=>[tG ((l.take s.1).filter (isRing x.AA)),tGo s.2]) (fun s=>l.length-s.1) (fun s=>s.1≤l.length∧K8 l s.1 s.2) (0,l.map some) rfl rfl ⟨Nat.zero_le _,K8.start l⟩ (fun R s hs hR=> ?_)
 obtain ⟨i,lo⟩:=s
 obtain ⟨hi,hr⟩:=hs
 simp only at hi hr
 have ol:=hr.1
 have fl:((l.take i).filter (isRing x.AA)).length≤i:=Nat.le_trans (List.length_filter_le _ _) (by rw [List.length_take];omega)
 simp only [AI,AP,AN,AS,AK,AE,AJ,AH,AM,AT,AL,AR,AO,AQ,BC,BE,BF,BJ,BL,BK,BH,AW,A5,AZ,A4,AY,AX]
 refine A9 (A7 (fun hlt=>BW ?_) fun hge=> ?_)
 ·have hlt:i<l.length:=by omega
  have ha:=hr.2 i (Nat.le_refl _) hlt
  obtain ⟨g1,g2,g3⟩:=hform _ (O4 hlt)
  have g4:=ge8 _ (O4 hlt)
  have es:=JE (p:=isRing x.AA) hlt
  rw [X7 hlt] at es
  have h0:=g2 _ (CH g1)
  refine AU (by rw [IB,ol];exact hlt) (aL ha ?_)
  rw [OE ha]
  simp only [AE]
  have yes:isRing x.AA (gG l i)=true→mvW (tGo lo) [] (AD (iv i)*1) 1 fun d43 k44=>
    apW [T.l 1 d43] false (cnt 1 (tG ((l.take i).filter (isRing x.AA)))) (cnt 1 [T.l 1 d43]) 24 (
    prP (bnI .add (iv i) (I 1)) fun t33_45=>R [iv l.length,t33_45] [tG ((l.take i).filter (isRing x.AA))++[T.l 1 d43],k44]):=fun hy=>by
   refine jT ha (US (by rw [IB,List.length_map];first | omega | (simp only [AH];omega)) (A8 (by omega) ?_))
   rw [QC]
   rw [if_pos hy] at es
   have:=hR (i+1,lo.set i none) ⟨hlt,hr.gone⟩ (by simp only;omega)
   simp only at this
   rw [es] at this
   exact this
  have no:isRing x.AA (gG l i)=false→prP (bnI .add (iv i) (I 1)) fun t33_45=>R [iv l.length,t33_45] [tG ((l.take i).filter (isRing x.AA)),tGo lo]:=fun hy=>by
   rw [hy] at es
   simp only [Bool.false_eq_true,if_false,List.append_nil] at es
   have:=hR (i+1,lo) ⟨hlt,hr.next⟩ (by simp only;omega)
   simp only at this
   rw [es] at this
   exact A8 (by omega) this
  refine JJ (BG (BG (BG ?_)))
  by_cases hl1:((gG l i).length:Int)>1
  ·refine HI hl1 (HI hl1 (BG (BG (HI hl1 (HI hl1 (HI hl1 (FH hl1 rfl (CE ?_))))))))
   exact yes (by unfold isRing;simp;left;omega)
  ·refine C7 hl1 (AU (j:=0) g1 (C7 hl1 (RJ ha g1 (BG (BG (C7 hl1 (AU (j:=0) g1 (C7 hl1 (RJ ha g1 (C7 hl1 (hLd h0 h0 (ER hl1 rfl ?_))))))))))))
   simp only [BC]
   cases e1:ldB x.AA (gI (gG l i) 0) (gI (gG l i) 0) with
   | true=>exact CE (yes (by unfold isRing;rw [e1];simp))
   | false=>exact B5 (no (by unfold isRing;rw [e1,decide_eq_false (by omega)];rfl))
 ·have:i=l.length:=by omega
  subst this
  rw [List.take_length]
  exact h
theorem aB {x:Hp} {K:J2} (hk:BO x) (h:K [] [tG (U5 x.AA)]):cl2 ⟨Try.prog,w0⟩ 92 G8.sg [] (trees x) K:=by
 have hform:=fun g hg=>JA hk (g:=g) hg
 obtain ⟨gl8,ge8⟩:=W6 hk
 have hLd:=fun {a b:Int} {K:J2} (ha:a∈B2 x.AA) (hb:b∈B2 x.AA) (hK:K [.bool (ldB x.AA a b)] [])=>N8 (w0:=w0) (K:=K) hk (BV (by have:=hk.HK (CQ hk ha);omega)) (BV (by have:=hk.HK (CQ hk hb);omega)) (CQ hk ha) (CQ hk hb) hK
 refine G8.cl2 ?_
 unfold G8.txt
 try simp only [trees]
 try simp only [AI,AP,AN,AS,AK,AE,AJ,AH,AM,AT,AL,AR,AO,AQ,BC,BE,BF,BJ,BL,BK,BH,AW,A5,AZ,A4,AY,AX]
 refine YA hk ?_
 unfold U5 at h
 generalize VA x.AA=l at h hform gl8 ge8 ⊢
 simp only [AI,AP,AN,AS,AK,AE,AJ,AH,AM,AT,AL,AR,AO,AQ,BC,BE,BF,BJ,BL,BK,BH,AW,A5,AZ,A4,AY,AX]
 refine DJ (α:=Nat×List (Option (List Int))) (fun s=>[iv s.1]) (fun s=>[tG ((l.take s.1).filter (isRing x.AA)),tGo s.2]) (fun s=>l.length-s.1) (fun s=>s.1≤l.length∧K8 l s.1 s.2) (0,l.map some) rfl rfl ⟨Nat.zero_le _,K8.start l⟩ (fun R s hs hR=> ?_)
 obtain ⟨i,lo⟩:=s
 obtain ⟨hi,hr⟩:=hs
 simp only at hi hr
 have ol:=hr.1
 have fl:((l.take i).filter (isRing x.AA)).length≤i:=Nat.le_trans (List.length_filter_le _ _) (by rw [List.length_take];omega)
 simp only [AI,AP,AN,AS,AK,AE,AJ,AH,AM,AT,AL,AR,AO,AQ,BC,BE,BF,BJ,BL,BK,BH,AW,A5,AZ,A4,AY,AX]
 rw [IB,ol]
 refine A9 (A7 (fun hlt=>BW ?_) fun hge=> ?_)
 ·have hlt:i<l.length:=by omega
  have ha:=hr.2 i (Nat.le_refl _) hlt
  obtain ⟨g1,g2,g3⟩:=hform _ (O4 hlt)
  have g4:=ge8 _ (O4 hlt)
  have es:=JE (p:=isRing x.AA) hlt
  rw [X7 hlt] at es
  have h0:=g2 _ (CH g1)
  refine AU hlt (SA ha ?_)
  rw [OE ha]
  simp only [AE]
  have yes:isRing x.AA (gG l i)=true→ixW l.length (iv i) fun t43_27=>ldg (tGo lo) [] (AD t43_27*1) [.l 1] fun ts28=>mvW (tGo lo) [] (AD t43_27*1) 1 fun d43 k44=>
    apW [T.l 1 d43] false (cnt 1 (tG ((l.take i).filter (isRing x.AA)))) (cnt 1 [T.l 1 d43]) 24 (
    prP (bnI .add (iv i) (I 1)) fun t33_45=>R [t33_45] [tG ((l.take i).filter (isRing x.AA))++[T.l 1 d43],k44]):=fun hy=>by
   refine AU hlt (aL ha (jT ha (US (by rw [IB,List.length_map];first | omega | (simp only [AH];omega)) (A8 (by omega) ?_))))
   rw [QC]
   rw [if_pos hy] at es
   have:=hR (i+1,lo.set i none) ⟨hlt,hr.gone⟩ (by simp only;omega)
   simp only at this
   rw [es] at this
   exact this
  have no:isRing x.AA (gG l i)=false→prP (bnI .add (iv i) (I 1)) fun t33_45=>R [t33_45] [tG ((l.take i).filter (isRing x.AA)),tGo lo]:=fun hy=>by
   rw [hy] at es
   simp only [Bool.false_eq_true,if_false,List.append_nil] at es
   have:=hR (i+1,lo) ⟨hlt,hr.next⟩ (by simp only;omega)
   simp only at this
   rw [es] at this
   exact A8 (by omega) this
  refine JJ (BG (BG (BG ?_)))
  by_cases hl1:((gG l i).length:Int)>1
  ·refine HI hl1 (BG (HI hl1 (HI hl1 (HI hl1 (BG (BG (HI hl1 (BG (HI hl1 (HI hl1 (HI hl1 (HI hl1 (FH hl1 rfl (CE ?_))))))))))))))
   exact yes (by unfold isRing;simp;left;omega)
  ·refine C7 hl1 (AU hlt (BG (C7 hl1 (SA ha ?_))))
   rw [OE ha]
   refine C7 hl1 (AU (j:=0) (by rw [AE];exact g1) (C7 hl1 (RJ ha g1 (BG (BG (C7 hl1 (AU hlt (BG (C7 hl1 (SA ha ?_))))))))))
   rw [OE ha]
   refine C7 hl1 (AU (j:=0) (by rw [AE];exact g1) (C7 hl1 (RJ ha g1 (C7 hl1 (hLd h0 h0 (ER hl1 rfl ?_))))))
   simp only [BC]
   cases e1:ldB x.AA (gI (gG l i) 0) (gI (gG l i) 0) with
   | true=>exact CE (yes (by unfold isRing;rw [e1];simp))
   | false=>exact B5 (no (by unfold isRing;rw [e1,decide_eq_false (by omega)];rfl))
 ·have:i=l.length:=by omega
  subst this
  rw [List.take_length]
  exact h
theorem aO {x:Hp} (hk:BO x):(U5 x.AA).length≤8∧ ∀g∈U5 x.AA,0<g.length∧g.length≤8∧ ∀v∈g,v∈B2 x.AA:=by
 obtain ⟨h1,h2⟩:=W6 hk
 refine ⟨Nat.le_trans (List.length_filter_le _ _) h1,fun g hg=> ?_⟩
 have hg:=(List.mem_filter.1 hg).1
 obtain ⟨a,b,_⟩:=JA hk hg
 exact ⟨a,h2 g hg,b⟩
theorem TO {x:Hp} {K:J2} (hk:BO x) (h:K [] [tG (O0 x.AA)]):cl2 ⟨Try.prog,w0⟩ 21 DW.sg [] (trees x) K:=by
 obtain ⟨gl8,hform⟩:=aO hk
 have ll:=GN x.AA
 have ol8:=hk.ol
 have lk:(IG x.AA).length≤(B2 x.AA).length:=List.length_filter_le _ _
 refine DW.cl2 ?_
 unfold DW.txt
 try simp only [trees]
 try simp only [AI,AP,AN,AS,AK,AE,AJ,AH,AM,AT,AL,AR,AO,AQ,BC,BE,BF,BJ,BL,BK,BH,AW,A5,AZ,A4,AY,AX]
 refine MW hk (ZV hk ?_)
 unfold O0 at h
 generalize U5 x.AA=l at h hform gl8 ⊢
 generalize IG x.AA=m at h lk ⊢
 simp only [AI,AP,AN,AS,AK,AE,AJ,AH,AM,AT,AL,AR,AO,AQ,BC,BE,BF,BJ,BL,BK,BH,AW,A5,AZ,A4,AY,AX]
 rw [IB,List.length_map]
 refine DJ (α:=Nat×List (Option (List Int))) (fun s=>[iv l.length,iv s.1]) (fun s=>[tI m,tG ((l.take s.1).filter fun g=>decide (gI g 0∈m)),tGo s.2]) (fun s=>l.length-s.1) (fun s=>s.1≤l.length∧K8 l s.1 s.2) (0,l.map some) rfl rfl ⟨Nat.zero_le _,K8.start l⟩ (fun R s hs hR=> ?_)
 obtain ⟨i,lo⟩:=s
 obtain ⟨hi,hr⟩:=hs
 simp only at hi hr
 have ol:=hr.1
 have fl:((l.take i).filter fun g=>decide (gI g 0∈m)).length≤i:=Nat.le_trans (List.length_filter_le _ _) (by rw [List.length_take];omega)
 simp only [AI,AP,AN,AS,AK,AE,AJ,AH,AM,AT,AL,AR,AO,AQ,BC,BE,BF,BJ,BL,BK,BH,AW,A5,AZ,A4,AY,AX]
 refine A9 (A7 (fun hlt=>BW ?_) fun hge=> ?_)
 ·have hlt:i<l.length:=by omega
  have ha:=hr.2 i (Nat.le_refl _) hlt
  obtain ⟨g1,g4,g2⟩:=hform _ (O4 hlt)
  have es:=JE (p:=fun g=>decide (gI g 0∈m)) hlt
  rw [X7 hlt] at es
  refine AU (by rw [IB,ol];exact hlt) (aL ha ?_)
  rw [OE ha]
  refine AU (j:=0) (by rw [AE];exact g1) (RJ ha g1 (IQ (by omega) (A7 (fun hm=> ?_) fun hm=> ?_)))
  ·rw [if_pos (decide_eq_true hm)] at es
   refine jT ha (US (by rw [IB,List.length_map];first | omega | (simp only [AH];omega)) (A8 (by omega) ?_))
   rw [QC]
   have:=hR (i+1,lo.set i none) ⟨hlt,hr.gone⟩ (by simp only;omega)
   simp only at this
   rw [es] at this
   exact this
  ·rw [if_neg (by simpa using hm),List.append_nil] at es
   have:=hR (i+1,lo) ⟨hlt,hr.next⟩ (by simp only;omega)
   simp only at this
   rw [es] at this
   exact A8 (by omega) this
 ·have:i=l.length:=by omega
  subst this
  rw [List.take_length]
  exact h
theorem TP {x:Hp} {K:J2} (hk:BO x) (h:K [] [tG (O0 x.AA)]):cl2 ⟨Try.prog,w0⟩ 23 ED.sg [] (trees x) K:=by
 obtain ⟨gl8,hform⟩:=aO hk
 have ll:=GN x.AA
 have ol8:=hk.ol
 have lk:(IG x.AA).length≤(B2 x.AA).length:=List.length_filter_le _ _
 refine ED.cl2 ?_
 unfold ED.txt
 try simp only [trees]
 try simp only [AI,AP,AN,AS,AK,AE,AJ,AH,AM,AT,AL,AR,AO,AQ,BC,BE,BF,BJ,BL,BK,BH,AW,A5,AZ,A4,AY,AX]
 refine aB hk (RD hk ?_)
 unfold O0 at h
 generalize U5 x.AA=l at h hform gl8 ⊢
 generalize IG x.AA=m at h lk ⊢
 simp only [AI,AP,AN,AS,AK,AE,AJ,AH,AM,AT,AL,AR,AO,AQ,BC,BE,BF,BJ,BL,BK,BH,AW,A5,AZ,A4,AY,AX]
 refine DJ (α:=Nat×List (Option (List Int))) (fun s=>[iv s.1]) (fun s=>[tG ((l.take s.1).filter fun g=>decide (gI g 0∈m)),tGo s.2,tI m]) (fun s=>l.length-s.1) (fun s=>s.1≤l.length∧K8 l s.1 s.2) (0,l.map some) rfl rfl ⟨Nat.zero_le _,K8.start l⟩ (fun R s hs hR=> ?_)
 obtain ⟨i,lo⟩:=s
 obtain ⟨hi,hr⟩:=hs
 simp only at hi hr
 have ol:=hr.1
 have fl:((l.take i).filter fun g=>decide (gI g 0∈m)).length≤i:=Nat.le_trans (List.length_filter_le _ _) (by rw [List.length_take];omega)
 simp only [AI,AP,AN,AS,AK,AE,AJ,AH,AM,AT,AL,AR,AO,AQ,BC,BE,BF,BJ,BL,BK,BH,AW,A5,AZ,A4,AY,AX]
 rw [IB,ol]
 refine A9 (A7 (fun hlt=>BW ?_) fun hge=> ?_)
 ·have hlt:i<l.length:=by omega
  have ha:=hr.2 i (Nat.le_refl _) hlt
  obtain ⟨g1,g4,g2⟩:=hform _ (O4 hlt)
  have es:=JE (p:=fun g=>decide (gI g 0∈m)) hlt
  rw [X7 hlt] at es
  refine AU hlt (SA ha ?_)
  rw [OE ha]
  refine AU (j:=0) (by rw [AE];exact g1) (RJ ha g1 (FP (by omega) (A7 (fun hm=> ?_) fun hm=> ?_)))
  ·rw [if_pos (decide_eq_true hm)] at es
   refine AU hlt (aL ha (jT ha (US (by rw [IB,List.length_map];first | omega | (simp only [AH];omega)) (A8 (by omega) ?_))))
   rw [QC]
   have:=hR (i+1,lo.set i none) ⟨hlt,hr.gone⟩ (by simp only;omega)
   simp only at this
   rw [es] at this
   exact this
  ·rw [if_neg (by simpa using hm),List.append_nil] at es
   have:=hR (i+1,lo) ⟨hlt,hr.next⟩ (by simp only;omega)
   simp only at this
   rw [es] at this
   exact A8 (by omega) this
 ·have:i=l.length:=by omega
  subst this
  rw [List.take_length]
  exact h
end Go.Proofs.Ytklmcfpgdfibnaa.P
namespace Go.Proofs.Ytklmcfpgdfibnaa.P
open Go Go.Proofs.Ytklmcfpgdfibnaa Go.Proofs.Ytklmcfpgdfibnaa.Eng
set_option linter.unusedVariables false
set_option maxHeartbeats 4000000
set_option linter.unusedVariables false
set_option linter.unusedSimpArgs false
attribute [local irreducible] prP gP gE gF A6 ixW ldc ldg ldl stc stg scW mkW apW BD cl2 BP C3 B9
variable {w0:World}
theorem dJ {a b:Bool} (h:a=b) {K:Value→Prop} (hk:K (.bool false)):prP (bnB .neq (.bool a) (.bool b)) K:=by
 subst h
 exact oV (v:= .bool false) (by cases a <;> rfl) rfl hk
end Go.Proofs.Ytklmcfpgdfibnaa.P
