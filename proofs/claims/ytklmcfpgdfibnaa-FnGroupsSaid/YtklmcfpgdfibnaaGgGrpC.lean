/- A part of the proof. -/
import Derived.Test.YtklmcfpgdfibnaaGgKepA
namespace Go.Proofs.Ytklmcfpgdfibnaa.P
open Go Go.Proofs.Ytklmcfpgdfibnaa Go.Proofs.Ytklmcfpgdfibnaa.Eng
set_option linter.unusedVariables false
def ldB (os:List AG) (a b:Int):Bool:=decide (b∈KO os (NR os (-1) (ob os (AA os a).toNat).field))
def muB (os:List AG) (a b:Int):Bool:=ldB os a b&&ldB os b a
theorem bP (os:List AG) (a b:Int):muB os a b=muB os b a:=Bool.and_comm _ _
theorem YW {x:Hp} (hk:BT x) {a b:Int} {k m:Nat} (ha:AA x.AD a=(k:Int)) (hb:AA x.AD b=(m:Int)):ldB x.AD a b=true↔RB x.AD (ob x.AD k).field m:=by
 unfold ldB
 rw [decide_eq_true_eq,ha,Int.toNat_natCast]
 obtain ⟨m8,mv,eb⟩:=rX hk hb
 rw [eb]
 exact jM hk m8 mv
theorem U2 {os:List AG} {k m:Nat}:RB os (ob os k).field m↔ ∃j:Nat,(j:Int)∈BH os k∧Reach os j m:=by
 constructor
 ·rintro ⟨f,hf,s,hs,hr⟩
  exact ⟨s,FK.2 ⟨by omega,f,hf,hs⟩,hr⟩
 ·rintro ⟨j,hj,hr⟩
  obtain ⟨_,f,hf,hs⟩:=FK.1 hj
  exact ⟨f,hf,j,hs,hr⟩
theorem mR {os:List AG} {a b c:Nat} (h1:RB os (ob os a).field b) (h2:RB os (ob os b).field c):RB os (ob os a).field c:=by
 obtain ⟨j,hj,hr⟩:=U2.1 h1
 obtain ⟨i,hi,hs⟩:=U2.1 h2
 refine U2.2 ⟨j,hj,(Reach.step hr hi).trans ?_⟩
 rw [Int.toNat_natCast];exact hs
theorem bT {x:Hp} (hk:BT x) {a b c:Int} (ha:0≤AA x.AD a) (hb:0≤AA x.AD b) (hc:0≤AA x.AD c) (h1:ldB x.AD a b=true) (h2:ldB x.AD b c=true):ldB x.AD a c=true:=by
 obtain ⟨k,ek⟩: ∃k:Nat,AA x.AD a=k:=⟨(AA x.AD a).toNat,by omega⟩
 obtain ⟨m,em⟩: ∃k:Nat,AA x.AD b=k:=⟨(AA x.AD b).toNat,by omega⟩
 obtain ⟨n,en⟩: ∃k:Nat,AA x.AD c=k:=⟨(AA x.AD c).toNat,by omega⟩
 rw [YW hk ek em] at h1
 rw [YW hk em en] at h2
 exact (YW hk ek en).2 (mR h1 h2)
theorem DG {x:Hp} (hk:BT x) {v:Int} (hv:v∈CD x.AD):0≤AA x.AD v:=by
 obtain ⟨k,k8,kv,rfl⟩:=(jL hk).1 hv
 rw [RJ hk k8 kv];omega
theorem cY {x:Hp} (hk:BT x) {a b c:Int} (ha:a∈CD x.AD) (hb:b∈CD x.AD) (hc:c∈CD x.AD) (h1:muB x.AD a b=true) (h2:muB x.AD b c=true):muB x.AD a c=true:=by
 unfold muB at*
 rw [Bool.and_eq_true] at*
 have sa:=DG hk ha
 have sb:=DG hk hb
 have sc:=DG hk hc
 exact ⟨bT hk sa sb sc h1.1 h2.1,bT hk sc sb sa h2.2 h1.2⟩
theorem L8 {x:Hp} (hk:BT x):(CD x.AD).Nodup:=by
 have e:CD x.AD=pick (F9 x.AD) 8:=by unfold CD;rw [hk.ol]
 rw [e]
 have key: ∀n,n≤8→(pick (F9 x.AD) n).Nodup:=fun n=>by
  induction n with
  | zero=>intro _;exact List.nodup_nil
  | succ n ih=>
    intro hn
    show (pick (F9 x.AD) n++F9 x.AD n).Nodup
    refine List.nodup_append.2 ⟨ih (by omega), ?_,fun a ha b hb he=> ?_⟩
    ·unfold F9;split <;> simp
    ·subst he
     obtain ⟨i,hi,h1⟩:=NH.1 ha
     unfold F9 at h1 hb
     split at h1
     ·rename_i c1
      split at hb
      ·rename_i c2
       have e1:=List.mem_singleton.1 h1
       have e2:=List.mem_singleton.1 hb
       have:=lR hk (show i<8 by omega) c1.2 (show n<8 by omega) c2.2 (by rw [←e1, ←e2])
       omega
      ·cases hb
     ·cases h1
 exact key 8 (Nat.le_refl _)
def KD (mu:Int→Int→Bool) (ids:List Int) (i:Nat):List Int:=gI ids i::(ids.drop (i+1)).filter (mu (gI ids i))
def II (mu:Int→Int→Bool) (ids:List Int):Nat→List (List Int)×List Int
 | 0=>([],[])
 | i+1=>if gI ids i∈(II mu ids i).2 then II mu ids i else ((II mu ids i).1++[KD mu ids i],(II mu ids i).2++KD mu ids i)
structure xT (mu:Int→Int→Bool) (ids:List Int) (i:Nat) (s:List (List Int)×List Int):Prop where
 fl:s.2=s.1.flatten
 nd:s.2.Nodup
 sub: ∀x∈s.2,x∈ids
 all: ∀j,j<i→gI ids j∈s.2
 form: ∀g∈s.1, ∃j,j<i∧j<ids.length∧g=KD mu ids j
 apart:s.1.Pairwise fun a b=>mu (gI b 0) (gI a 0)=false
theorem nI {ids:List Int} {i j:Nat} (h:j<i) (hi:i<ids.length):gI ids i∈ids.drop (j+1):=by
 rw [←CN hi]
 exact List.mem_drop_iff_getElem.2 ⟨i-(j+1),by omega,by congr 1;omega⟩
theorem ZB {mu:Int→Int→Bool} {ids:List Int} (hn:ids.Nodup) (hs: ∀a b,mu a b=mu b a) (ht: ∀a∈ids, ∀b∈ids, ∀c∈ids,mu a b=true→mu b c=true→mu a c=true): ∀i,i≤ids.length→xT mu ids i (II mu ids i)
 | 0,_=>⟨rfl,List.nodup_nil,by simp [II],by simp,by simp [II],List.Pairwise.nil⟩
 | i+1,hi=>by
   have h:=ZB hn hs ht i (by omega)
   have hil:i<ids.length:=by omega
   have hm:gI ids i∈ids:=CH hil
   simp only [II]
   split
   ·rename_i hd
    exact ⟨h.fl,h.nd,h.sub,fun j hj=>by
     by_cases hji:j=i
     ·subst hji;exact hd
     ·exact h.all j (by omega),fun g hg=>by obtain ⟨j,a,b,c⟩:=h.form g hg;exact ⟨j,by omega,b,c⟩,h.apart⟩
   ·rename_i hd
    have key: ∀g∈(II mu ids i).1,mu (gI g 0) (gI ids i)=false:=fun g hg=>by
     obtain ⟨j,hj,hjl,rfl⟩:=h.form g hg
     cases hmu:mu (gI (KD mu ids j) 0) (gI ids i) with
     | false=>rfl
     | true=>
       exfalso
       apply hd
       rw [h.fl]
       refine List.mem_flatten.2 ⟨_,hg, ?_⟩
       unfold KD
       exact List.mem_cons_of_mem _ (List.mem_filter.2 ⟨nI hj hil,hmu⟩)
    have gsub: ∀x∈KD mu ids i,x∈ids:=fun x hx=>by
     unfold KD at hx
     rcases List.mem_cons.1 hx with rfl | hx
     ·exact hm
     ·exact List.mem_of_mem_drop (List.mem_filter.1 hx).1
    refine ⟨?_, ?_, ?_, ?_, ?_, ?_⟩
    ·rw [h.fl,List.flatten_append];simp
    ·refine List.nodup_append.2 ⟨h.nd, ?_,fun x hx y hy he=> ?_⟩
     ·unfold KD
      have hd2:ids.drop i=gI ids i::ids.drop (i+1):=by rw [List.drop_eq_getElem_cons hil,CN hil]
      have hnd:=hn.sublist (List.drop_sublist i ids)
      rw [hd2] at hnd
      have:=List.nodup_cons.1 hnd
      exact List.nodup_cons.2 ⟨fun hh=>this.1 (List.mem_filter.1 hh).1,this.2.sublist List.filter_sublist⟩
     ·subst he
      rw [h.fl] at hx
      obtain ⟨g,hg,hxg⟩:=List.mem_flatten.1 hx
      have k1:=key g hg
      obtain ⟨j,hj,hjl,rfl⟩:=h.form g hg
      have hjm:gI ids j∈ids:=CH hjl
      have k1:mu (gI ids j) (gI ids i)=false:=k1
      have hx1:x=gI ids j∨mu (gI ids j) x=true:=by
       unfold KD at hxg
       rcases List.mem_cons.1 hxg with rfl | hh
       ·exact .inl rfl
       ·exact .inr (List.mem_filter.1 hh).2
      have hx2:x=gI ids i∨mu (gI ids i) x=true:=by
       unfold KD at hy
       rcases List.mem_cons.1 hy with rfl | hh
       ·exact .inl rfl
       ·exact .inr (List.mem_filter.1 hh).2
      have hxm:=gsub x hy
      have:mu (gI ids j) (gI ids i)=true:=by
       rcases hx2 with rfl | hx2
       ·rcases hx1 with e | hx1
        ·exfalso;apply hd;rw [h.fl];exact hx
        ·exact hx1
       ·rw [hs] at hx2
        rcases hx1 with rfl | hx1
        ·exact hx2
        ·exact ht _ hjm _ hxm _ hm hx1 hx2
      rw [k1] at this;cases this
    ·intro x hx
     rcases List.mem_append.1 hx with hx | hx
     ·exact h.sub x hx
     ·exact gsub x hx
    ·intro j hj
     by_cases hji:j=i
     ·subst hji;exact List.mem_append_right _ (by unfold KD;simp)
     ·exact List.mem_append_left _ (h.all j (by omega))
    ·intro g hg
     rcases List.mem_append.1 hg with hg | hg
     ·obtain ⟨j,a,b,c⟩:=h.form g hg;exact ⟨j,by omega,b,c⟩
     ·exact ⟨i,by omega,hil,List.mem_singleton.1 hg⟩
    ·refine List.pairwise_append.2 ⟨h.apart,by simp,fun a ha b hb=> ?_⟩
     rw [List.mem_singleton.1 hb]
     have:=key a ha
     rw [hs] at this
     exact this
def PT (os:List AG):List (List Int):=(II (muB os) (CD os) (CD os).length).1
theorem WY {x:Hp} (hk:BT x):xT (muB x.AD) (CD x.AD) (CD x.AD).length (II (muB x.AD) (CD x.AD) (CD x.AD).length):=
 ZB (L8 hk) (bP _) (fun a ha b hb c hc=>cY hk ha hb hc) _ (Nat.le_refl _)
theorem X4 {x:Hp} (hk:BT x):(PT x.AD).flatten.Perm (CD x.AD):=by
 have h:=WY hk
 have e:(PT x.AD).flatten=(II (muB x.AD) (CD x.AD) (CD x.AD).length).2:=h.fl.symm
 rw [e]
 refine (List.perm_ext_iff_of_nodup h.nd (L8 hk)).2 fun v=>⟨h.sub v,fun hv=> ?_⟩
 obtain ⟨j,hj,rfl⟩:=List.getElem_of_mem hv
 rw [CN hj];exact h.all j hj
theorem S6 {x:Hp} (hk:BT x) {g:List Int} (hg:g∈PT x.AD):0<g.length∧(∀v∈g,v∈CD x.AD)∧ ∀j,0<j→j<g.length→muB x.AD (gI g 0) (gI g j)=true:=by
 have h:=WY hk
 obtain ⟨i,hi,hil,rfl⟩:=h.form g hg
 refine ⟨by simp [KD],fun v hv=>h.sub v (by rw [h.fl];exact List.mem_flatten.2 ⟨_,hg,hv⟩),fun j hj hl=> ?_⟩
 unfold KD at hl ⊢
 have e0:gI (gI (CD x.AD) i::((CD x.AD).drop (i+1)).filter (muB x.AD (gI (CD x.AD) i))) 0=gI (CD x.AD) i:=rfl
 rw [e0]
 obtain ⟨j,rfl⟩: ∃j',j=j'+1:=⟨j-1,by omega⟩
 simp only [List.length_cons] at hl
 have hl':j<(((CD x.AD).drop (i+1)).filter (muB x.AD (gI (CD x.AD) i))).length:=by omega
 have e1:gI (gI (CD x.AD) i::((CD x.AD).drop (i+1)).filter (muB x.AD (gI (CD x.AD) i))) (j+1)=gI (((CD x.AD).drop (i+1)).filter (muB x.AD (gI (CD x.AD) i))) j:=rfl
 rw [e1, ←CN hl']
 exact (List.mem_filter.1 (List.getElem_mem hl')).2
theorem aH {x:Hp} (hk:BT x):(PT x.AD).length≤8∧ ∀g∈PT x.AD,g.length≤8:=by
 have hp:=(X4 hk).length_eq
 have ll:=NG x.AD
 have:=hk.ol
 have hf: ∀{l:List (List Int)},(∀g∈l,0<g.length)→l.length≤l.flatten.length∧ ∀g∈l,g.length≤l.flatten.length:=fun {l}=>by
  induction l with
  | nil=>intro _;simp
  | cons a l ih=>
    intro h
    obtain ⟨i1,i2⟩:=ih fun g hg=>h g (by simp [hg])
    have:=h a (by simp)
    refine ⟨by simp only [List.length_cons,List.flatten_cons,List.length_append];omega,fun g hg=> ?_⟩
    simp only [List.flatten_cons,List.length_append]
    rcases List.mem_cons.1 hg with rfl | hg
    ·omega
    ·have:=i2 g hg;omega
 obtain ⟨h1,h2⟩:=hf fun g hg=>(S6 hk hg).1
 exact ⟨by omega,fun g hg=>by have:=h2 g hg;omega⟩
def isRing (os:List AG) (g:List Int):Bool:=decide (g.length>1)||ldB os (gI g 0) (gI g 0)
def c7 (os:List AG):List (List Int):=(PT os).filter (isRing os)
theorem Rch.on {os:List AG} {a b:Nat} (h:Rch os a) (hr:RB os (ob os a).field b):Rch os b:=by
 obtain ⟨e,he,h⟩:=h
 obtain ⟨j,hj,hr⟩:=U2.1 hr
 refine ⟨e,he,(Reach.step h hj).trans ?_⟩
 rw [Int.toNat_natCast];exact hr
end Go.Proofs.Ytklmcfpgdfibnaa.P
namespace Go.Proofs.Ytklmcfpgdfibnaa.P
open Go Go.Proofs.Ytklmcfpgdfibnaa Go.Proofs.Ytklmcfpgdfibnaa.Eng
set_option linter.unusedVariables false
theorem m9 {n a:Nat} (h:a≤n) {K:Value→Value→Prop} (hK:K (iv a) (iv (n-a))):scW n (some (iv a)) none K:=⟨a,n,rfl,rfl,h,Nat.le_refl _,hK⟩
theorem wP {l:List Int} {i:Nat} {K:Value→Prop} (hi:i<l.length) (h:K (I (gI l i))):ldc (tI l) [] i K:=⟨_,by rw [←CN hi];exact aB hi,h⟩
def tGe:Option (List Int)→T
 | some g=> .l 1 (tI g)
 | none=> .x
def tGo (l:List (Option (List Int))):List T:=l.map tGe
abbrev tG (l:List (List Int)):List T:=tGo (l.map some)
theorem IY (l:List (Option (List Int))):cnt 1 (tGo l)=l.length:=by simp [cnt,tGo]
theorem SS {l:List (Option (List Int))} {i:Nat} {g:List Int} (h:l[i]? =some (some g)):(tGo l)[i]? =some (.l 1 (tI g)):=by simp [tGo,h,tGe]
theorem Z5 (l:List (List Int)) (g:List Int):tG l++[T.l 1 (tI g)]=tG (l++[g]):=by simp [tG,tGo,tGe]
section
variable {l:List (Option (List Int))} {i:Nat} {g:List Int}
theorem IL {K:Value→Prop} (h:l[i]? =some (some g)) (hK:K (iv 0)):ldl (tGo l) [] (AB (iv i)*1) 1 K:=by
 rw [AW,Nat.mul_one]
 exact ⟨⟨tI g,SS h⟩,hK⟩
theorem IK (h:l[i]? =some (some g)):DN (tGo l) [AB (iv i)*1]=tI g:=by
 rw [AW,Nat.mul_one]
 simp [DN,node,SS h]
theorem LH {j:Nat} {K:Value→Prop} (h:l[i]? =some (some g)) (hj:j<g.length) (hK:K (I (gI g j))):ldc (tGo l) [AB (iv i)*1] (AB (iv j)*1) K:=by
 rw [AW,AW,Nat.mul_one,Nat.mul_one]
 refine ⟨I (gI g j), ?_,hK⟩
 unfold cell
 simp only [node,SS h,Option.bind_some]
 rw [←CN hj];exact aB hj
theorem vG {K:List T→Prop} (h:l[i]? =some (some g)) (hK:K [T.l 1 (tI g)]):ldg (tGo l) [] (AB (iv i)*1) [.l 1] K:=by
 rw [AW,Nat.mul_one]
 refine ⟨_, ?_,rfl,hK⟩
 unfold HF
 simp only [node,List.length_singleton]
 rw [List.take_one,List.head?_drop,SS h];rfl
theorem w5 {K:List T→List T→Prop} (h:l[i]? =some (some g)) (hK:K (tI g) (tGo (l.set i none))):mvW (tGo l) [] (AB (iv i)*1) 1 K:=by
 rw [AW,Nat.mul_one]
 refine ⟨tI g,SS h, ?_⟩
 have hl:i<(tGo l).length:=(List.getElem?_eq_some_iff.1 (SS h)).1
 have e:H4 (tGo l) [] i [.x]=tGo (l.set i none):=by
  unfold H4
  simp only [node,GD]
  rw [S0 hl]
  unfold tGo
  rw [List.map_set];rfl
 rw [e];exact hK
end
def gG (l:List (List Int)) (i:Nat):List Int:=l.getD i []
theorem TD {l:List (List Int)} {i:Nat} (h:i<l.length):l[i]=gG l i:=by simp [gG,h]
theorem RA {l:List (List Int)} {i:Nat} (h:i<l.length):(l.map some)[i]? =some (some (gG l i)):=by rw [List.getElem?_map,List.getElem?_eq_getElem h,TD h];rfl
theorem OH {l:List (List Int)} {i:Nat} (h:i<l.length):gG l i∈l:=by rw [←TD h];exact List.getElem_mem h
def QC (l:List (List Int)) (i:Nat) (lo:List (Option (List Int))):Prop:=lo.length=l.length∧ ∀j,i≤j→j<l.length→lo[j]? =some (some (gG l j))
theorem QC.start (l:List (List Int)):QC l 0 (l.map some):=⟨by simp,fun j _ hj=>RA hj⟩
theorem QC.next {l:List (List Int)} {i:Nat} {lo:List (Option (List Int))} (h:QC l i lo):QC l (i+1) lo:=⟨h.1,fun j hj hl=>h.2 j (by omega) hl⟩
theorem QC.gone {l:List (List Int)} {i:Nat} {lo:List (Option (List Int))} (h:QC l i lo):QC l (i+1) (lo.set i none):=⟨by simp [h.1],fun j hj hl=>by rw [List.getElem?_set_ne (by omega)];exact h.2 j (by omega) hl⟩
theorem LM {α:Type} {l:List α} {p:α→Bool} {i:Nat} (hi:i<l.length):(l.take (i+1)).filter p=(l.take i).filter p++if p l[i]=true then [l[i]] else []:=by
 rw [List.take_succ_eq_append_getElem hi,List.filter_append]
 congr 1
 rw [List.filter_cons,List.filter_nil]
set_option maxHeartbeats 4000000
set_option linter.unusedVariables false
set_option linter.unusedSimpArgs false
attribute [local irreducible] prP gP gE gF AV ixW ldc ldg ldl stc stg scW mkW apW BC cl2 BS CU B1
variable {w0:World}
theorem RS {x:Hp} {a b:Int} {K:J2} (hk:BT x) (fa:F64 a) (fb:F64 b) (ha:0≤AA x.AD a) (hb:0≤AA x.AD b) (h:K [.bool (ldB x.AD a b)] []):cl2 ⟨Try.prog,w0⟩ 26 C7.sg [I a,I b] (trees x) K:=by
 obtain ⟨k,ek⟩: ∃k:Nat,AA x.AD a=k:=⟨(AA x.AD a).toNat,by omega⟩
 obtain ⟨m,em⟩: ∃k:Nat,AA x.AD b=k:=⟨(AA x.AD b).toNat,by omega⟩
 refine ZJ hk fa fb ek em ?_
 unfold ldB at h
 rw [ek,Int.toNat_natCast] at h
 exact h
theorem N4 {x:Hp} {a b:Int} {K:J2} (hk:BT x) (fa:F64 a) (fb:F64 b) (ha:0≤AA x.AD a) (hb:0≤AA x.AD b) (h:K [.bool (ldB x.AD a b)] []):cl2 ⟨Try.prog,w0⟩ 64 DU.sg [I a,I b] (trees x) K:=by
 have ol8:=hk.ol
 have hof:=(hk.st hk.I8).of
 obtain ⟨k,ek⟩: ∃k:Nat,AA x.AD a=k:=⟨(AA x.AD a).toNat,by omega⟩
 obtain ⟨m,em⟩: ∃k:Nat,AA x.AD b=k:=⟨(AA x.AD b).toNat,by omega⟩
 have k8:=(IT ek).1
 have hld:=YW hk ek em
 refine DU.cl2 ?_
 unfold DU.txt
 try simp only [trees]
 try simp only [AK,AO,AL,AM,AT,AE,AJ,AI,AR,AQ,AN,AU,AP,AS,BG,BO,BL,BN,BM,BP,BK,A5,A6,A8,AZ,A7,A4]
 refine JX fa (by omega) (JX fb (by omega) ?_)
 rw [ek,em]
 have p1: ¬(k:Int)<0:=by omega
 refine BA (BD (EN p1 (BA (EW p1 rfl (DP (by omega) (O6 ol8 hof k8 ?_))))))
 have kl:=MX hof (k:=k) (by omega)
 obtain ⟨ks,hks⟩: ∃ks,BH x.AD k=ks:=⟨_,rfl⟩
 have hkb: ∀j∈ks, ∃i:Nat,j=(i:Int)∧i<8∧(ob x.AD i).live=true:=fun j hj=>by
  rw [←hks] at hj
  have:=B5 hj
  exact ⟨j.toNat,by omega,this.2.1,this.2.2.2.2⟩
 have hrb:RB x.AD (ks.map (idO x.AD)) m↔RB x.AD (ob x.AD k).field m:=by
  rw [U2,hks]
  constructor
  ·rintro ⟨v,hv,s,hs,hr⟩
   obtain ⟨j,hj,rfl⟩:=List.mem_map.1 hv
   obtain ⟨i,rfl,i8,iv'⟩:=hkb j hj
   unfold idO at hs
   rw [Int.toNat_natCast,RJ hk i8 iv'] at hs
   have:i=s:=by omega
   subst this
   exact ⟨i,hj,hr⟩
  ·rintro ⟨j,hj,hr⟩
   obtain ⟨i,e,i8,iv'⟩:=hkb _ hj
   have:j=i:=by omega
   subst this
   refine ⟨idO x.AD (j:Int),List.mem_map.2 ⟨_,hj,rfl⟩,j, ?_,hr⟩
   unfold idO
   rw [Int.toNat_natCast];exact RJ hk i8 iv'
 rw [hks] at kl ⊢
 simp only [AK,AO,AL,AM,AT,AE,AJ,AI,AR,AQ,AN,AU,AP,AS,BG,BO,BL,BN,BM,BP,BK,A5,A6,A8,AZ,A7,A4]
 refine BF (fun i=>[iv m,iv ks.length,iv i]) (fun i=>[tI ((ks.take i).map (idO x.AD)),tI ks]) ks.length (fun _=>True) rfl rfl trivial (fun R i hi _ hR=> ?_)
 have tl:((ks.take i).map (idO x.AD)).length=i:=by rw [List.length_map,List.length_take];omega
 simp only [AK,AO,AL,AM,AT,AE,AJ,AI,AR,AQ,AN,AU,AP,AS,BG,BO,BL,BN,BM,BP,BK,A5,A6,A8,AZ,A7,A4]
 refine BA (A9 (fun hlt=> ?_) fun hge=> ?_)
 ·have hlt:i<ks.length:=by omega
  have hR:=hR hlt trivial
  obtain ⟨j,ej,j8,jv⟩:=hkb _ (CH hlt)
  refine AH hlt (ldI hlt ?_)
  rw [ej]
  refine AH (by omega) (KJ (c:=1) (by omega) (by decide) rfl (TB (D9 rfl (by first | omega | (simp only [AK,AO,AL,AM,AT,AE,AJ,AI,AR,AQ,AN,AU,AP,AS,BG,BO,BL,BN,BM,BP,BK,A5,A6,A8,AZ,A7,A4];omega)) (BB (by omega) ?_))))
  rw [List.take_succ_eq_append_getElem hlt,List.map_append,CN hlt,ej] at hR
  have e2:[(j:Int)].map (idO x.AD)=[CA (j:Int) (ob x.AD j).gen]:=by simp [idO]
  rw [e2, ←DS] at hR
  exact hR
 ·have:i=ks.length:=by omega
  subst this
  rw [List.take_length]
  have il:(ks.map (idO x.AD)).length=ks.length:=by simp
  refine W4 (x:=x) (but:= -1) hk.fits hof (fun v hv=> ?_) (by omega) (by omega) ?_
  ·obtain ⟨j,hj,rfl⟩:=List.mem_map.1 hv
   unfold idO
   exact B8 (by have:=ZG j (ob x.AD j.toNat).gen;omega)
  obtain ⟨q1,q2⟩:=Z0 x.AD (-1) (ks.map (idO x.AD))
  have ql:=q1.len
  have sl:(slQ (NR x.AD (-1) (ks.map (idO x.AD)))).length=(NR x.AD (-1) (ks.map (idO x.AD))).length:=by simp
  simp only [AK,AO,AL,AM,AT,AE,AJ,AI,AR,AQ,AN,AU,AP,AS,BG,BO,BL,BN,BM,BP,BK,A5,A6,A8,AZ,A7,A4]
  refine QF (x:=(m:Int)) (by omega) ?_
  have e:decide ((m:Int)∈slQ (NR x.AD (-1) (ks.map (idO x.AD))))=ldB x.AD a b:=by
   rw [Bool.eq_iff_iff,decide_eq_true_eq,hld, ←hrb]
   show inQ _ _↔_
   rw [q2 m,qC]
  rw [e];exact h
theorem cP {x:Hp} (hk:BT x) {i:Nat} (hi:i≤(CD x.AD).length):(II (muB x.AD) (CD x.AD) i).2.length≤8∧(II (muB x.AD) (CD x.AD) i).1.length≤8:=by
 have h:=ZB (L8 hk) (bP _) (fun a ha b hb c hc=>cY hk ha hb hc) i hi
 have ll:=NG x.AD
 have:=hk.ol
 have n1:=kH h.nd h.sub
 refine ⟨by omega, ?_⟩
 have hf: ∀{l:List (List Int)},(∀g∈l,0<g.length)→l.length≤l.flatten.length:=fun {l}=>by
  induction l with
  | nil=>intro _;simp
  | cons a l ih=>
    intro h
    have i1:=ih fun g hg=>h g (by simp [hg])
    have:=h a (by simp)
    simp only [List.length_cons,List.flatten_cons,List.length_append];omega
 have:=hf (l:=(II (muB x.AD) (CD x.AD) i).1) fun g hg=>by obtain ⟨j,_,_,rfl⟩:=h.form g hg;simp [KD]
 rw [←h.fl] at this
 omega
theorem QD {x:Hp} {K:J2} (hk:BT x) (h:K [] [tG (PT x.AD)]):cl2 ⟨Try.prog,w0⟩ 63 EM.sg [] (trees x) K:=by
 have ol8:=hk.ol
 have hll:=fun i hi=>cP hk (i:=i) hi
 have hsl:=fun v hv=>DG hk (v:=v) hv
 have hF: ∀v∈CD x.AD,F64 v:=fun v hv=>B8 (by have:=hk.H8 (hsl v hv);omega)
 have ll:=NG x.AD
 refine EM.cl2 ?_
 unfold EM.txt
 try simp only [trees]
 try simp only [AK,AO,AL,AM,AT,AE,AJ,AI,AR,AQ,AN,AU,AP,AS,BG,BO,BL,BN,BM,BP,BK,A5,A6,A8,AZ,A7,A4]
 refine CY (DP (by omega) (US (by omega) ?_))
 unfold PT at h
 have hLd:=fun {a b:Int} {K:J2} (ha:a∈CD x.AD) (hb:b∈CD x.AD) (hK:K [.bool (ldB x.AD a b)] [])=>N4 (w0:=w0) (K:=K) hk (hF a ha) (hF b hb) (hsl a ha) (hsl b hb) hK
 generalize hm:CD x.AD=m at h hll hsl hF ll hLd ⊢
 generalize hmu:muB x.AD=mu at h hll ⊢
 have mu_eq: ∀a b,mu a b=(ldB x.AD a b&&ldB x.AD b a):=fun a b=>by rw [←hmu];rfl
 clear hmu
 simp only [AK,AO,AL,AM,AT,AE,AJ,AI,AR,AQ,AN,AU,AP,AS,BG,BO,BL,BN,BM,BP,BK,A5,A6,A8,AZ,A7,A4]
 refine BF (fun i=>[iv m.length,iv i]) (fun i=>[tG (II mu m i).1,tI (II mu m i).2,tI m]) m.length (fun _=>True) rfl rfl trivial (fun R i hi _ hR=> ?_)
 obtain ⟨l1,l2⟩:=hll i hi
 simp only [AK,AO,AL,AM,AT,AE,AJ,AI,AR,AQ,AN,AU,AP,AS,BG,BO,BL,BN,BM,BP,BK,A5,A6,A8,AZ,A7,A4]
 refine BA (A9 (fun hlt=>BX ?_) fun hge=> ?_)
 ·have hlt:i<m.length:=by omega
  have hR:=hR hlt trivial
  have es:II mu m (i+1)=if gI m i∈(II mu m i).2 then II mu m i else ((II mu m i).1++[KD mu m i],(II mu m i).2++KD mu m i):=rfl
  rw [es] at hR
  have l3:=(hll (i+1) hlt)
  rw [es] at l3
  generalize II mu m i=st at hR l1 l2 l3 ⊢
  obtain ⟨out,dn⟩:=st
  simp only at hR l1 l2 l3 ⊢
  refine AH hlt (ldI hlt (QF (by omega) (A9 (fun hin=> ?_) fun hin=> ?_)))
  ·rw [if_pos hin] at hR
   exact BB (by omega) hR
  ·rw [if_neg hin] at hR l3
   simp only [List.length_append] at l3
   refine BB (by omega) (m9 (by omega) ?_)
   have hda: ∀j,j<m.length-(i+1)→(m.drop (i+1)).length=m.length-(i+1)∧gI (m.drop (i+1)) j=gI m (i+1+j):=fun j hj=>by
    refine ⟨List.length_drop, ?_⟩
    unfold gI
    rw [List.getD_eq_getElem?_getD,List.getElem?_drop, ←List.getD_eq_getElem?_getD]
   have ham:gI m i∈m:=CH hlt
   refine BF (fun j=>[I (gI m i),iv m.length,iv i,iv (m.length-(i+1)),iv ((i+1)*1),iv (m.length-(i+1)),iv j]) (fun j=>[tG out,tI dn,tI m,tI (gI m i::((m.drop (i+1)).take j).filter (mu (gI m i)))]) (m.length-(i+1)) (fun _=>True) rfl rfl trivial (fun R2 j hj _ hR2=> ?_)
   have fl:((((m.drop (i+1)).take j).filter (mu (gI m i))).length)≤j:=Nat.le_trans (List.length_filter_le _ _) (by rw [List.length_take];omega)
   simp only [AK,AO,AL,AM,AT,AE,AJ,AI,AR,AQ,AN,AU,AP,AS,BG,BO,BL,BN,BM,BP,BK,A5,A6,A8,AZ,A7,A4]
   simp only [BK,AW]
   refine BA (A9 (fun hlj=>BX ?_) fun hgj=> ?_)
   ·have hlj:j<m.length-(i+1):=by omega
    obtain ⟨d1,d2⟩:=hda j hlj
    have hR2:=hR2 hlj trivial
    have hbl:i+1+j<m.length:=by omega
    have hbm:gI m (i+1+j)∈m:=CH hbl
    have eld: ∀{K:Value→Prop},K (I (gI m (i+1+j)))→ldc (tI m) [] ((i+1)*1+AB (iv j)*1) K:=fun hK=>by
     rw [AW,Nat.mul_one,Nat.mul_one];exact wP hbl hK
    rw [LM (by rw [d1];exact hlj),CN (by rw [d1];exact hlj),d2,mu_eq] at hR2
    refine AH hlj (eld (hLd ham hbm (BD (BD (BD ?_)))))
    cases e1:ldB x.AD (gI m i) (gI m (i+1+j)) with
    | false=>
      rw [e1] at hR2
      simp only [Bool.false_and,Bool.false_eq_true,if_false,List.append_nil] at hR2
      exact DY (SO rfl (B4 (BB (by omega) hR2)))
    | true=>
      rw [e1] at hR2
      simp only [Bool.true_and] at hR2
      refine D6 (hLd hbm ham (QM rfl ?_))
      simp only [BG]
      cases e2:ldB x.AD (gI m (i+1+j)) (gI m i) with
      | false=>
        rw [e2] at hR2
        simp only [Bool.false_eq_true,if_false,List.append_nil] at hR2
        exact B4 (BB (by omega) hR2)
      | true=>
        rw [e2] at hR2
        simp only [if_true] at hR2
        refine CG (D9 rfl (by simp only [List.length_cons,AE,AI] at*;omega) (BB (by omega) ?_))
        rw [DS]
        exact hR2
   ·have:j=m.length-(i+1):=by omega
    subst this
    have ed:(m.drop (i+1)).take (m.length-(i+1))=m.drop (i+1):=List.take_of_length_le (by rw [List.length_drop];omega)
    rw [ed]
    have eg:gI m i::(m.drop (i+1)).filter (mu (gI m i))=KD mu m i:=rfl
    have egl:(KD mu m i).length=(gI m i::(m.drop (i+1)).filter (mu (gI m i))).length:=rfl
    rw [eg]
    refine D9 (KK _) (by first | omega | (simp only [AK,AO,AL,AM,AT,AE,AJ,AI,AR,AQ,AN,AU,AP,AS,BG,BO,BL,BN,BM,BP,BK,A5,A6,A8,AZ,A7,A4];omega)) (cN (by rw [IY,List.length_map];first | omega | (simp only [AI];omega)) (BB (by omega) ?_))
    rw [Z5]
    have e3:tI dn++tI (KD mu m i)=tI (dn++KD mu m i):=by simp [tI]
    rw [e3]
    exact hR
 ·have:i=m.length:=by omega
  subst this
  exact h
end Go.Proofs.Ytklmcfpgdfibnaa.P
namespace Go.Proofs.Ytklmcfpgdfibnaa.P
open Go Go.Proofs.Ytklmcfpgdfibnaa Go.Proofs.Ytklmcfpgdfibnaa.Eng
set_option linter.unusedVariables false
set_option maxHeartbeats 4000000
set_option linter.unusedVariables false
set_option linter.unusedSimpArgs false
attribute [local irreducible] prP gP gE gF AV ixW ldc ldg ldl stc stg scW mkW apW BC cl2 BS CU B1
variable {w0:World}
theorem XC {x:Hp} {K:J2} (hk:BT x) (h:K [] [tG (PT x.AD)]):cl2 ⟨Try.prog,w0⟩ 68 FV.sg [] (trees x) K:=by
 have ol8:=hk.ol
 have hll:=fun i hi=>cP hk (i:=i) hi
 have hsl:=fun v hv=>DG hk (v:=v) hv
 have hF: ∀v∈CD x.AD,F64 v:=fun v hv=>B8 (by have:=hk.H8 (hsl v hv);omega)
 have ll:=NG x.AD
 refine FV.cl2 ?_
 unfold FV.txt
 try simp only [trees]
 try simp only [AK,AO,AL,AM,AT,AE,AJ,AI,AR,AQ,AN,AU,AP,AS,BG,BO,BL,BN,BM,BP,BK,A5,A6,A8,AZ,A7,A4]
 refine I7 (by omega) (CY (DP (by omega) ?_))
 unfold PT at h
 have hLd:=fun {a b:Int} {K:J2} (ha:a∈CD x.AD) (hb:b∈CD x.AD) (hK:K [.bool (ldB x.AD a b)] [])=>RS (w0:=w0) (K:=K) hk (hF a ha) (hF b hb) (hsl a ha) (hsl b hb) hK
 generalize hm:CD x.AD=m at h hll hsl hF ll hLd ⊢
 generalize hmu:muB x.AD=mu at h hll ⊢
 have mu_eq: ∀a b,mu a b=(ldB x.AD a b&&ldB x.AD b a):=fun a b=>by rw [←hmu];rfl
 clear hmu
 simp only [AK,AO,AL,AM,AT,AE,AJ,AI,AR,AQ,AN,AU,AP,AS,BG,BO,BL,BN,BM,BP,BK,A5,A6,A8,AZ,A7,A4]
 refine BF (fun i=>[iv i]) (fun i=>[tG (II mu m i).1,tI (II mu m i).2,tI m]) m.length (fun _=>True) rfl rfl trivial (fun R i hi _ hR=> ?_)
 obtain ⟨l1,l2⟩:=hll i hi
 simp only [AK,AO,AL,AM,AT,AE,AJ,AI,AR,AQ,AN,AU,AP,AS,BG,BO,BL,BN,BM,BP,BK,A5,A6,A8,AZ,A7,A4]
 refine BA (A9 (fun hlt=>BX ?_) fun hge=> ?_)
 ·have hlt:i<m.length:=by omega
  have hR:=hR hlt trivial
  have es:II mu m (i+1)=if gI m i∈(II mu m i).2 then II mu m i else ((II mu m i).1++[KD mu m i],(II mu m i).2++KD mu m i):=rfl
  rw [es] at hR
  have l3:=(hll (i+1) hlt)
  rw [es] at l3
  generalize II mu m i=st at hR l1 l2 l3 ⊢
  obtain ⟨out,dn⟩:=st
  simp only at hR l1 l2 l3 ⊢
  refine AH hlt (ldI hlt (HY (by omega) (A9 (fun hin=> ?_) fun hin=> ?_)))
  ·rw [if_pos hin] at hR
   exact BB (by omega) hR
  ·rw [if_neg hin] at hR l3
   simp only [List.length_append] at l3
   refine AH hlt (ldI hlt (BB (by omega) ?_))
   have ham:gI m i∈m:=CH hlt
   refine BF (fun j=>[iv i,iv (i+1+j)]) (fun j=>[tG out,tI dn,tI m,tI (gI m i::((m.drop (i+1)).take j).filter (mu (gI m i)))]) (m.length-(i+1)) (fun _=>True) rfl rfl trivial (fun R2 j hj _ hR2=> ?_)
   have fl:((((m.drop (i+1)).take j).filter (mu (gI m i))).length)≤j:=Nat.le_trans (List.length_filter_le _ _) (by rw [List.length_take];omega)
   simp only [AK,AO,AL,AM,AT,AE,AJ,AI,AR,AQ,AN,AU,AP,AS,BG,BO,BL,BN,BM,BP,BK,A5,A6,A8,AZ,A7,A4]
   refine BA (A9 (fun hlj=>BX ?_) fun hgj=> ?_)
   ·have hlj:j<m.length-(i+1):=by omega
    have hR2:=hR2 hlj trivial
    have hbl:i+1+j<m.length:=by omega
    have hbm:gI m (i+1+j)∈m:=CH hbl
    have d1:(m.drop (i+1)).length=m.length-(i+1):=List.length_drop
    have d2:gI (m.drop (i+1)) j=gI m (i+1+j):=by
     unfold gI
     rw [List.getD_eq_getElem?_getD,List.getElem?_drop, ←List.getD_eq_getElem?_getD]
    rw [LM (by rw [d1];exact hlj),CN (by rw [d1];exact hlj),d2,mu_eq] at hR2
    refine AH hlt (ldI hlt (AH hbl (ldI hbl (hLd ham hbm (BD (BD (BD ?_)))))))
    cases e1:ldB x.AD (gI m i) (gI m (i+1+j)) with
    | false=>
      rw [e1] at hR2
      simp only [Bool.false_and,Bool.false_eq_true,if_false,List.append_nil] at hR2
      refine DY (DY (BD (BD (DY (DY (DY (SO rfl (B4 (BB (by omega) ?_)))))))))
      exact hR2
    | true=>
      rw [e1] at hR2
      simp only [Bool.true_and] at hR2
      refine D6 (AH hbl (D6 (ldI hbl (BD (BD (D6 (AH hlt (D6 (ldI hlt (D6 (hLd hbm ham (QM rfl ?_))))))))))))
      simp only [BG]
      cases e2:ldB x.AD (gI m (i+1+j)) (gI m i) with
      | false=>
        rw [e2] at hR2
        simp only [Bool.false_eq_true,if_false,List.append_nil] at hR2
        exact B4 (BB (by omega) hR2)
      | true=>
        rw [e2] at hR2
        simp only [if_true] at hR2
        refine CG (AH hbl (ldI hbl (D9 rfl (by simp only [List.length_cons,AE,AI] at*;omega) (BB (by omega) ?_))))
        rw [DS]
        exact hR2
   ·have:j=m.length-(i+1):=by omega
    subst this
    have ed:(m.drop (i+1)).take (m.length-(i+1))=m.drop (i+1):=List.take_of_length_le (by rw [List.length_drop];omega)
    rw [ed]
    have eg:gI m i::(m.drop (i+1)).filter (mu (gI m i))=KD mu m i:=rfl
    have egl:(KD mu m i).length=(gI m i::(m.drop (i+1)).filter (mu (gI m i))).length:=rfl
    rw [eg]
    refine D9 (KK _) (by first | omega | (simp only [AK,AO,AL,AM,AT,AE,AJ,AI,AR,AQ,AN,AU,AP,AS,BG,BO,BL,BN,BM,BP,BK,A5,A6,A8,AZ,A7,A4];omega)) (cN (by rw [IY,List.length_map];first | omega | (simp only [AI];omega)) (BB (by omega) ?_))
    rw [Z5]
    have e3:tI dn++tI (KD mu m i)=tI (dn++KD mu m i):=by simp [tI]
    rw [e3]
    exact hR
 ·have:i=m.length:=by omega
  subst this
  exact h
theorem Y0 {x:Hp} {K:J2} (hk:BT x) (h:K [] [tG (c7 x.AD)]):cl2 ⟨Try.prog,w0⟩ 65 GZ.sg [] (trees x) K:=by
 have hform:=fun g hg=>S6 hk (g:=g) hg
 obtain ⟨gl8,ge8⟩:=aH hk
 have hLd:=fun {a b:Int} {K:J2} (ha:a∈CD x.AD) (hb:b∈CD x.AD) (hK:K [.bool (ldB x.AD a b)] [])=>N4 (w0:=w0) (K:=K) hk (B8 (by have:=hk.H8 (DG hk ha);omega)) (B8 (by have:=hk.H8 (DG hk hb);omega)) (DG hk ha) (DG hk hb) hK
 refine GZ.cl2 ?_
 unfold GZ.txt
 try simp only [trees]
 try simp only [AK,AO,AL,AM,AT,AE,AJ,AI,AR,AQ,AN,AU,AP,AS,BG,BO,BL,BN,BM,BP,BK,A5,A6,A8,AZ,A7,A4]
 refine QD hk ?_
 unfold c7 at h
 generalize PT x.AD=l at h hform gl8 ge8 ⊢
 simp only [AK,AO,AL,AM,AT,AE,AJ,AI,AR,AQ,AN,AU,AP,AS,BG,BO,BL,BN,BM,BP,BK,A5,A6,A8,AZ,A7,A4]
 rw [IY,List.length_map]
 refine EY (α:=Nat×List (Option (List Int))) (fun s=>[iv l.length,iv s.1]) (fun s=>[tG ((l.take s.1).filter (isRing x.AD)),tGo s.2]) (fun s=>l.length-s.1) (fun s=>s.1≤l.length∧QC l s.1 s.2) (0,l.map some) rfl rfl ⟨Nat.zero_le _,QC.start l⟩ (fun R s hs hR=> ?_)
 obtain ⟨i,lo⟩:=s
 obtain ⟨hi,hr⟩:=hs
 simp only at hi hr
 have ol:=hr.1
 have fl:((l.take i).filter (isRing x.AD)).length≤i:=Nat.le_trans (List.length_filter_le _ _) (by rw [List.length_take];omega)
 simp only [AK,AO,AL,AM,AT,AE,AJ,AI,AR,AQ,AN,AU,AP,AS,BG,BO,BL,BN,BM,BP,BK,A5,A6,A8,AZ,A7,A4]
 refine BA (A9 (fun hlt=>BX ?_) fun hge=> ?_)
 ·have hlt:i<l.length:=by omega
  have ha:=hr.2 i (Nat.le_refl _) hlt
  obtain ⟨g1,g2,g3⟩:=hform _ (OH hlt)
  have g4:=ge8 _ (OH hlt)
  have es:=LM (p:=isRing x.AD) hlt
  rw [TD hlt] at es
  have h0:=g2 _ (CH g1)
  refine AH (by rw [IY,ol];exact hlt) (vG ha ?_)
  rw [IK ha]
  simp only [AE]
  have yes:isRing x.AD (gG l i)=true→mvW (tGo lo) [] (AB (iv i)*1) 1 fun d43 k44=>
    apW [T.l 1 d43] false (cnt 1 (tG ((l.take i).filter (isRing x.AD)))) (cnt 1 [T.l 1 d43]) 24 (
    prP (bnI .add (iv i) (I 1)) fun t33_45=>R [iv l.length,t33_45] [tG ((l.take i).filter (isRing x.AD))++[T.l 1 d43],k44]):=fun hy=>by
   refine w5 ha (cN (by rw [IY,List.length_map];first | omega | (simp only [AI];omega)) (BB (by omega) ?_))
   rw [Z5]
   rw [if_pos hy] at es
   have:=hR (i+1,lo.set i none) ⟨hlt,hr.gone⟩ (by simp only;omega)
   simp only at this
   rw [es] at this
   exact this
  have no:isRing x.AD (gG l i)=false→prP (bnI .add (iv i) (I 1)) fun t33_45=>R [iv l.length,t33_45] [tG ((l.take i).filter (isRing x.AD)),tGo lo]:=fun hy=>by
   rw [hy] at es
   simp only [Bool.false_eq_true,if_false,List.append_nil] at es
   have:=hR (i+1,lo) ⟨hlt,hr.next⟩ (by simp only;omega)
   simp only at this
   rw [es] at this
   exact BB (by omega) this
  refine HR (BD (BD (BD ?_)))
  by_cases hl1:((gG l i).length:Int)>1
  ·refine G9 hl1 (G9 hl1 (BD (BD (G9 hl1 (G9 hl1 (G9 hl1 (ER hl1 rfl (CG ?_))))))))
   exact yes (by unfold isRing;simp;left;omega)
  ·refine EN hl1 (AH (j:=0) g1 (EN hl1 (LH ha g1 (BD (BD (EN hl1 (AH (j:=0) g1 (EN hl1 (LH ha g1 (EN hl1 (hLd h0 h0 (EW hl1 rfl ?_))))))))))))
   simp only [BG]
   cases e1:ldB x.AD (gI (gG l i) 0) (gI (gG l i) 0) with
   | true=>exact CG (yes (by unfold isRing;rw [e1];simp))
   | false=>exact B4 (no (by unfold isRing;rw [e1,decide_eq_false (by omega)];rfl))
 ·have:i=l.length:=by omega
  subst this
  rw [List.take_length]
  exact h
end Go.Proofs.Ytklmcfpgdfibnaa.P
