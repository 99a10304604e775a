/- A part of the proof. -/
import Derived.Test.YthapfcoajahegaaAlHpV
namespace Go.Proofs.Ythapfcoajahegaa.P
open Go Go.Proofs.Ythapfcoajahegaa Go.Proofs.Ythapfcoajahegaa.Eng
set_option linter.unusedVariables false
theorem HY {k:Nat} {g:Int} (hk:k<8) (h1:1≤g) (h2:g≤999):DA k g=k+8*g:=by unfold DA;rw [if_pos ⟨⟨by omega,by omega⟩,h1,h2⟩]
theorem I3 {os:List AE} {k:Nat} (hol:os.length=8) (hk:k<8) (hv:(ob os k).live=true) (h1:1≤(ob os k).gen) (h2:(ob os k).gen≤999):AA os (DA k (ob os k).gen)=k:=by
 rw [HY hk h1 h2]
 have e1:((k:Int)+8*(ob os k).gen) % 8=k:=by omega
 have e2:((k:Int)+8*(ob os k).gen)/8=(ob os k).gen:=by omega
 have e3:(((k:Int)+8*(ob os k).gen) % 8).toNat=k:=by omega
 rw [P4 (by omega) hol (by omega) (by rw [e3];exact hv) (by rw [e3,e2]),e1]
theorem MG {os:List AE} {k:Nat} {x:Int} (h:AA os x=(k:Int)) (h1:1≤(ob os k).gen) (h2:(ob os k).gen≤999):x=DA k (ob os k).gen:=by
 have hb:=BH (l:=os) (id:=x) (by omega)
 have e:(AA os x).toNat=k:=by omega
 rw [e] at hb
 rw [HY (by omega) h1 h2];omega
theorem FZ {a b:List AE} {x:Int} (hl:a.length=b.length) (h: ∀i,i<a.length→(ob a i).live=(ob b i).live∧(ob a i).gen=(ob b i).gen):AA a x=AA b x:=by
 simp only [AA,hl]
 by_cases hx:x<8∨b.length≠8
 ·rw [if_pos hx,if_pos hx]
 ·rw [if_neg hx,if_neg hx]
  have:=h (x % 8).toNat (by omega)
  rw [this.1,this.2]
theorem RJ {os:List AE} {k:Nat} {v:AE} {id:Int} (hk:k<os.length):BU (os.set k v) id+OK id (ob os k)=BU os id+OK id v:=by
 unfold BU
 rw [List.map_set]
 have hk':k<(os.map (OK id)).length:=by simpa using hk
 have e:ob os k=os[k]:=(ID hk).symm
 have h1: ∀(l:List Nat) (k v:Nat) (hk:k<l.length),(l.set k v).sum+l[k]=l.sum+v:=by
  intro l
  induction l with
  | nil=>intro k v hk;simp at hk
  | cons x l ih=>
    intro k v hk
    cases k with
    | zero=>simp;omega
    | succ k=>
      have:=ih k v (by simpa using hk)
      simp only [List.set_cons_succ,List.sum_cons,List.getElem_cons_succ];omega
 have:=h1 (os.map (OK id)) k (OK id v) hk'
 rw [List.getElem_map] at this
 rw [e];exact this
structure tE (os:List AE) (ns:Nat) (buf pd:List Int) (i:Nat):Prop where
 gen:0≤(ob os i).gen∧(ob os i).gen≤999
 len:(ob os i).field.length=3
 cb:(ob os i).count≤1000
 lead: ∀f∈(ob os i).field,f≠ -1→(ob os i).live=true∧0≤AA os f
 dead:(ob os i).live=false→(ob os i).site=0∧(ob os i).holds=0∧(ob os i).roots=0∧(ob os i).count=0∧(ob os i).purple=false
 lv:(ob os i).live=true→1≤(ob os i).gen∧(0≤(ob os i).site∧(ob os i).site≤(ns:Int)-1)∧(0≤(ob os i).holds∧(ob os i).holds≤20)∧(0≤(ob os i).roots∧(ob os i).roots≤20)∧
  (ob os i).count=(ob os i).holds+(ob os i).roots+BU os (DA i (ob os i).gen)+pd.count (DA i (ob os i).gen)∧1≤(ob os i).count∧((ob os i).purple=true↔DA i (ob os i).gen∈buf)
structure HP (os:List AE) (ns:Nat) (buf pd:List Int):Prop where
 ol:os.length=8
 obj: ∀i,i<8→tE os ns buf pd i
 bnd:buf.Nodup
 blv: ∀x∈buf,0≤AA os x
 pd: ∀x∈pd,0≤AA os x
theorem QK {os:List AE} {i:Nat} (hol:os.length=8) (hi:i<8) (hv:(ob os i).live=true):inE os i=BU os (DA i (ob os i).gen):=by
 unfold inE
 rw [if_pos ⟨⟨by omega,by omega⟩,by rw [Int.toNat_natCast];exact hv⟩,Int.toNat_natCast]
theorem FV.hp {h:Hp} (hk:FV h):HP h.BC h.sites.length h.buffer []:=by
 refine ⟨hk.ol,fun i hi=> ?_,hk.bnd,fun x hx=>hk.UZ hx,by simp⟩
 have ho:=hk.obj i hi
 refine ⟨ho.gen,ho.len, ?_,fun f hf hne=> ?_,ho.dead,fun hv=> ?_⟩
 ·cases hv:(ob h.BC i).live with
  | false=>have:=ho.dead hv;omega
  | true=>
    have hed:=UD (l:=h.BC) (id:=DA i (ob h.BC i).gen) (b:=3) fun o ho'=>by
     obtain ⟨j,hj,rfl⟩:=List.getElem_of_mem ho'
     rw [ID hj,(hk.obj j (by have:=hk.ol;omega)).len];omega
    have e:=(ho.lv hv).2.2.2.2.1
    rw [QK hk.ol hi hv] at e
    have:=(ho.lv hv).2.2.1;have:=(ho.lv hv).2.2.2.1
    have hol:=hk.ol
    omega
 ·obtain ⟨j,hj,rfl⟩:=List.getElem_of_mem hf
  rw [I6 hj] at hne ⊢
  exact ho.lead j (by have:=ho.len;omega) hne
 ·obtain ⟨a,b,c,d,e,f,g⟩:=ho.lv hv
  rw [QK hk.ol hi hv] at e
  refine ⟨a,b,c,d,by rw [e];simp,f,by rw [g];simp⟩
theorem HP.ok {os:List AE} {buf:List Int} {ws:List Wk} {ss:List ByteArray} (h:HP os ss.length buf []) (hw:ws.length=8) (hs:NH ss) (hwk: ∀i,i<8→((wk ws i).used=false→(wk ws i).target=0)∧((wk ws i).used=true→8≤(wk ws i).target∧(wk ws i).target≤7999)):FV ⟨os,ws,buf,ss⟩:=by
 refine ⟨h.ol,hw,hs,fun i hi=> ?_,hwk,fun i hi=>⟨h.blv _ (N0 hi),fun hm=> ?_⟩⟩
 ·have ho:=h.obj i hi
  refine ⟨ho.gen,ho.len,fun j hj hne=>ho.lead _ (N0 (by have:=ho.len;omega)) hne,ho.dead,fun hv=> ?_⟩
  obtain ⟨a,b,c,d,e,f,g⟩:=ho.lv hv
  refine ⟨a,b,c,d, ?_,f, ?_⟩
  ·have:=QK h.ol hi hv
   simp only at this ⊢
   rw [this,e];simp
  ·simp only
   cases hp:(ob os i).purple with
   | true=>exact (decide_eq_true (g.1 hp)).symm
   | false=>exact (decide_eq_false fun hm=>by have:=g.2 hm;rw [hp] at this;cases this).symm
 ·have hi:i<buf.length:=hi
  have hnd:=List.pairwise_iff_getElem.1 h.bnd
  obtain ⟨j,hj,he⟩:=List.mem_take_iff_getElem.1 hm
  have hj2:j<i:=by omega
  exact hnd j i (by omega) hi hj2 (by rw [he,I6 hi])
theorem JB {id:Int} {o:AE} (h:o.live=true):OK id o=o.field.count id:=by unfold OK;rw [if_pos h]
theorem PD {id:Int} {o:AE} (h:o.live=false):OK id o=0:=by unfold OK;rw [if_neg (by rw [h];decide)]
theorem mO {l:List Nat} {x:Nat} (h:x∈l):x≤l.sum:=by
 induction l with
 | nil=>simp at h
 | cons y l ih=>
   rw [List.sum_cons]
   rcases List.mem_cons.1 h with rfl | h
   ·omega
   ·have:=ih h;omega
theorem UY {os:List AE} {id:Int} (h:BU os id=0) {i:Nat} (hi:i<os.length) (hv:(ob os i).live=true):id∉(ob os i).field:=by
 intro hm
 have h1:OK id (ob os i)≤BU os id:=by
  unfold BU
  rw [←ID hi]
  exact mO (List.mem_map.2 ⟨_,List.getElem_mem hi,rfl⟩)
 rw [JB hv] at h1
 have:=List.count_pos_iff.2 hm
 omega
section
variable {os:List AE} {ns:Nat} {buf pd:List Int} {k:Nat} {id:Int}
theorem HP.at (h:HP os ns buf (id::pd)) (hk:AA os id=(k:Int)):k<8∧(ob os k).live=true∧id=DA k (ob os k).gen∧1≤(ob os k).gen∧(ob os k).gen≤999∧8≤id∧(ob os k).count=(ob os k).holds+(ob os k).roots+BU os id+pd.count id+1∧1≤(ob os k).count∧F64 (ob os k).count:=by
 have hb:=BH (l:=os) (id:=id) (by omega)
 have e:(AA os id).toNat=k:=by omega
 rw [e] at hb
 have ho:=h.obj k hb.2.2.2.1
 obtain ⟨g1,_,g3,g4,g5,g6,_⟩:=ho.lv hb.2.2.2.2.1
 have hid:=MG hk g1 ho.gen.2
 rw [←hid,List.count_cons_self] at g5
 have:=ho.cb
 exact ⟨hb.2.2.2.1,hb.2.2.2.2.1,hid,g1,ho.gen.2,hb.2.1,by rw [g5];omega,g6,⟨by omega,by omega⟩⟩
theorem X5 {i:Nat} {g g':Int} (hi:i<8) (hk:k<8) (h1:1≤g) (h2:g≤999) (h3:1≤g') (h4:g'≤999) (h:i≠k):DA i g≠DA k g':=by
 rw [HY hi h1 h2,HY hk h3 h4];omega
theorem HP.dec (h:HP os ns buf (id::pd)) (hk:AA os id=(k:Int)) {v:AE} {buf':List Int} (v1:v.live=(ob os k).live) (v2:v.gen=(ob os k).gen) (v3:v.site=(ob os k).site) (v4:v.holds=(ob os k).holds) (v5:v.roots=(ob os k).roots) (v6:v.field=(ob os k).field) (vc:v.count=(ob os k).count-1) (vp:1≤v.count) (hb: ∀x,x≠id→(x∈buf'↔x∈buf)) (hp:v.purple=true↔id∈buf') (hn:buf'.Nodup):HP (os.set k v) ns buf' pd:=by
 obtain ⟨k8,kv,kid,kg1,kg2,kid8,kc,kc1,_⟩:=h.at hk
 have hol:=h.ol
 have hkl:k<os.length:=by omega
 have same: ∀i,i<(os.set k v).length→(ob (os.set k v) i).live=(ob os i).live∧(ob (os.set k v) i).gen=(ob os i).gen:=fun i hi=>by
  rw [GA hkl];split
  ·rename_i he;subst he;exact ⟨v1,v2⟩
  ·exact ⟨rfl,rfl⟩
 have sl: ∀x,AA (os.set k v) x=AA os x:=fun x=>FZ (by simp) same
 have ed: ∀x,BU (os.set k v) x=BU os x:=fun x=>Q0 (by simp) fun i hi=>by
  rw [GA hkl];split
  ·rename_i he;subst he;exact ⟨v1,v6⟩
  ·exact ⟨rfl,rfl⟩
 refine ⟨by simpa using hol,fun i hi=> ?_,hn,fun x hx=> ?_,fun x hx=>by rw [sl];exact h.pd x (by simp [hx])⟩
 ·have ho:=h.obj i hi
  by_cases hik:i=k
  ·subst hik
   have e:ob (os.set i v) i=v:=by rw [GA hkl,if_pos rfl]
   obtain ⟨g1,g2,g3,g4,g5,g6,g7⟩:=ho.lv kv
   refine ⟨by rw [e,v2];exact ho.gen,by rw [e,v6];exact ho.len,by rw [e,vc];have:=ho.cb;omega,fun f hf hne=> ?_,fun hd=> ?_,fun _=> ?_⟩
   ·rw [e,v6] at hf;rw [e,v1,sl];exact ho.lead f hf hne
   ·rw [e,v1,kv] at hd;cases hd
   ·rw [e,v2,v3,v4,v5,ed, ←kid]
    exact ⟨g1,g2,g3,g4,by rw [vc];omega,vp,hp⟩
  ·have e:ob (os.set k v) i=ob os i:=by rw [GA hkl,if_neg hik]
   refine ⟨by rw [e];exact ho.gen,by rw [e];exact ho.len,by rw [e];exact ho.cb,fun f hf hne=> ?_,fun hd=> ?_,fun hv=> ?_⟩
   ·rw [e] at hf;rw [e,sl];exact ho.lead f hf hne
   ·rw [e] at hd ⊢;exact ho.dead hd
   ·rw [e] at hv ⊢
    obtain ⟨g1,g2,g3,g4,g5,g6,g7⟩:=ho.lv hv
    have hne:DA i (ob os i).gen≠id:=by rw [kid];exact X5 hi k8 g1 ho.gen.2 kg1 kg2 hik
    rw [List.count_cons_of_ne (Ne.symm hne)] at g5
    exact ⟨g1,g2,g3,g4,by rw [ed];exact g5,g6,g7.trans (hb _ hne).symm⟩
 ·rw [sl]
  by_cases hxi:x=id
  ·subst hxi;omega
  ·exact h.blv x ((hb x hxi).1 hx)
theorem HP.free (h:HP os ns buf (id::pd)) (hk:AA os id=(k:Int)) (hc:(ob os k).count≤1):HP (os.set k (CM (ob os k).gen)) ns (buf.filter fun x=>decide (x≠id)) (pd++(ob os k).field.filter fun x=>decide (0≤x)):=by
 obtain ⟨k8,kv,kid,kg1,kg2,kid8,kc,kc1,_⟩:=h.at hk
 have hol:=h.ol
 have hkl:k<os.length:=by omega
 have hok:=h.obj k k8
 obtain ⟨_,_,hh,hr,_,_,_⟩:=hok.lv kv
 have e0:BU os id=0:=by omega
 have p0:pd.count id=0:=by omega
 have hnf: ∀i,i<8→(ob os i).live=true→id∉(ob os i).field:=fun i hi hv=>UY e0 (by omega) hv
 have eo: ∀i,ob (os.set k (CM (ob os k).gen)) i=if i=k then CM (ob os k).gen else ob os i:=fun i=>GA hkl
 have sl: ∀x,x≠id→AA (os.set k (CM (ob os k).gen)) x=AA os x:=fun x hx=>by
  simp only [AA,List.length_set]
  by_cases h8:x<8∨os.length≠8
  ·rw [if_pos h8,if_pos h8]
  ·rw [if_neg h8,if_neg h8,eo]
   by_cases hxk:(x % 8).toNat=k
   ·rw [if_pos hxk,if_neg (by simp [CM]),if_neg fun hh=> ?_]
    rw [hxk] at hh
    rw [HY k8 kg1 kg2] at kid
    omega
   ·rw [if_neg hxk]
 have ed: ∀x,(BU os x:Int)=BU (os.set k (CM (ob os k).gen)) x+(ob os k).field.count x:=fun x=>by
  have e:=RJ (os:=os) (v:=CM (ob os k).gen) (id:=x) hkl
  rw [JB kv,PD (o:=CM (ob os k).gen) rfl] at e
  omega
 refine ⟨by simpa using hol,fun i hi=> ?_,h.bnd.filter _,fun x hx=> ?_,fun x hx=> ?_⟩
 ·have ho:=h.obj i hi
  by_cases hik:i=k
  ·subst hik
   have e:ob (os.set i (CM (ob os i).gen)) i=CM (ob os i).gen:=by rw [eo,if_pos rfl]
   refine ⟨by rw [e];exact ho.gen,by rw [e];rfl,by rw [e];simp [CM],fun f hf hne=> ?_,fun _=>by rw [e];exact ⟨rfl,rfl,rfl,rfl,rfl⟩,fun hv=>by rw [e] at hv;cases hv⟩
   rw [e] at hf
   simp [CM,SG] at hf
   exact absurd hf hne
  ·have e:ob (os.set k (CM (ob os k).gen)) i=ob os i:=by rw [eo,if_neg hik]
   refine ⟨by rw [e];exact ho.gen,by rw [e];exact ho.len,by rw [e];exact ho.cb,fun f hf hne=> ?_,fun hd=> ?_,fun hv=> ?_⟩
   ·rw [e] at hf
    have hl:=ho.lead f hf hne
    rw [e,sl f fun he=>hnf i hi hl.1 (he ▸ hf)]
    exact hl
   ·rw [e] at hd ⊢;exact ho.dead hd
   ·rw [e] at hv ⊢
    obtain ⟨g1,g2,g3,g4,g5,g6,g7⟩:=ho.lv hv
    have hne:DA i (ob os i).gen≠id:=by rw [kid];exact X5 hi k8 g1 ho.gen.2 kg1 kg2 hik
    rw [List.count_cons_of_ne (Ne.symm hne),ed] at g5
    have hpos:0≤DA i (ob os i).gen:=by rw [HY hi g1 ho.gen.2];omega
    have ef:((ob os k).field.filter fun x=>decide (0≤x)).count (DA i (ob os i).gen)=(ob os k).field.count (DA i (ob os i).gen):=List.count_filter (by simpa using hpos)
    refine ⟨g1,g2,g3,g4,by rw [List.count_append,ef];omega,g6,g7.trans ?_⟩
    simp [List.mem_filter,hne]
 ·obtain ⟨h1,h2⟩:=List.mem_filter.1 hx
  have hne:x≠id:=by simpa using h2
  rw [sl x hne];exact h.blv x h1
 ·rcases List.mem_append.1 hx with hx | hx
  ·have hne:x≠id:=fun he=>by
    subst he
    have:=List.count_pos_iff.2 hx
    omega
   rw [sl x hne];exact h.pd x (by simp [hx])
  ·obtain ⟨h1,h2⟩:=List.mem_filter.1 hx
   have h2:0≤x:=by simpa using h2
   rw [sl x fun he=>hnf k k8 kv (he ▸ h1)]
   exact (hok.lead x h1 (by omega)).2
end
def lvs (os:List AE):Nat:=os.countP (·.live)
theorem S1 {os:List AE} {k:Nat} (hk:k<os.length) (kv:(ob os k).live=true) (v:AE):lvs (os.set k v)+1=lvs os+if v.live=true then 1 else 0:=by
 unfold lvs
 have e:=List.countP_set (p:=fun o:AE=>o.live) (a:=v) hk
 have hp:0<os.countP (fun o:AE=>o.live):=List.countP_pos_iff.2 ⟨os[k],List.getElem_mem hk,by rw [ID hk];exact kv⟩
 rw [e,ID hk,kv]
 simp only [if_true]
 omega
theorem b9 {os:List AE} (h:os.length=8):lvs os≤8:=by
 have:=List.countP_le_length (p:=fun o:AE=>o.live) (l:=os)
 unfold lvs;omega
theorem HP.tD {ns:Nat}: ∀(f:Nat) {os:List AE} {buf todo freed:List Int},HP os ns buf todo→freed.length+lvs os≤8→todo.length+4*lvs os<f→HP (KD f os buf freed todo).1 ns (KD f os buf freed todo).2.1 []:=by
 intro f
 induction f with
 | zero=>intro os buf todo freed _ _ h;omega
 | succ f ih=>
   intro os buf todo freed h h8 hf
   cases todo with
   | nil=>exact h
   | cons id pd=>
     have hs:=h.pd id (by simp)
     obtain ⟨k,hk⟩: ∃k:Nat,AA os id=(k:Int):=⟨(AA os id).toNat,by omega⟩
     obtain ⟨k8,kv,kid,kg1,kg2,kid8,kc,kc1,kF⟩:=h.at hk
     have hkl:k<os.length:=by have:=h.ol;omega
     simp only [KD,hk,Int.toNat_natCast]
     rw [if_neg (by omega),if_neg (by omega)]
     have ew:w64 ((ob os k).count-1)=(ob os k).count-1:=ON ⟨by omega,by have:=kF.2;omega⟩
     rw [ew]
     have lset:=S1 hkl kv
     have lvd: ∀v:AE,v.live=true→lvs (os.set k v)=lvs os:=fun v hv=>by
      have:=lset v
      rw [if_pos hv] at this;omega
     simp only [List.length_cons] at hf
     by_cases hc:(ob os k).count-1>0
     ·rw [if_pos hc]
      have hpk:=((h.obj k k8).lv kv).2.2.2.2.2.2
      rw [←kid] at hpk
      by_cases hp:(ob os k).purple=true
      ·rw [if_pos hp]
       exact ih (h.dec hk rfl rfl rfl rfl rfl rfl rfl (by simp only;omega) (fun x _=>Iff.rfl) hpk h.bnd) (by rw [lvd] <;> first | omega | exact kv) (by rw [lvd] <;> first | omega | exact kv)
      ·rw [if_neg hp]
       have hni:id∉buf:=fun hm=>hp (hpk.2 hm)
       exact ih (h.dec hk rfl rfl rfl rfl rfl rfl rfl (by simp only;omega) (fun x hx=>by simp [hx]) (by simp) (List.nodup_append.2 ⟨h.bnd,by simp,fun a ha b hb=>by
        have hb:b=id:=by simpa using hb
        subst hb;intro he;exact hni (he ▸ ha)⟩)) (by rw [lvd] <;> first | omega | exact kv) (by rw [lvd] <;> first | omega | exact kv)
     ·rw [if_neg hc]
      have hl:=lset (CM (ob os k).gen)
      rw [if_neg (by simp [CM])] at hl
      have hfl:=List.length_filter_le (fun x=>decide (0≤x)) (ob os k).field
      rw [(h.obj k k8).len] at hfl
      exact ih (h.free hk (by omega)) (by rw [List.length_append,List.length_singleton];omega) (by rw [List.length_append];omega)
theorem HP.OB {ns:Nat} {os:List AE} {buf:List Int} {x:Int} (h:HP os ns buf [x]):HP (OB os buf [x]).1 ns (OB os buf [x]).2.1 []:=by
 have hol:=h.ol
 have:=b9 hol
 exact HP.tD _ h (by simp only [List.length_nil];omega) (by simp only [List.length_singleton];omega)
end Go.Proofs.Ythapfcoajahegaa.P
namespace Go.Proofs.Ythapfcoajahegaa.P
open Go Go.Proofs.Ythapfcoajahegaa Go.Proofs.Ythapfcoajahegaa.Eng
set_option linter.unusedVariables false
structure pB (os:List AE) (e:Nat):Prop where
 lt:e<8
 lv:(ob os e).live=true
 pos:0<(ob os e).holds+(ob os e).roots
def Cov (os:List AE) (L:List Int) (k:Nat):Prop:=(∃e,pB os e∧Reach os e k)∨ ∃x∈L, ∃s:Nat,AA os x=(s:Int)∧Reach os s k
def Gd (os:List AE) (L:List Int):Prop:= ∀k,k<8→(ob os k).live=true→Cov os L k
theorem Cov.mono {os:List AE} {L L':List Int} {k:Nat} (h: ∀x∈L,0≤AA os x→x∈L'):Cov os L k→Cov os L' k
 | .inl h'=> .inl h'
 | .inr ⟨x,hx,s,hs,hr⟩=> .inr ⟨x,h x hx (by omega),s,hs,hr⟩
theorem Gd.mono {os:List AE} {L L':List Int} (g:Gd os L) (h: ∀x∈L,0≤AA os x→x∈L'):Gd os L':=fun k hk hv=>(g k hk hv).mono h
theorem Reach.live {os:List AE} {s k:Nat} (h:Reach os s k) (hs:s<8∧(ob os s).live=true):k<8∧(ob os k).live=true:=
 h.closed (P:=fun k=>k<8∧(ob os k).live=true) hs fun _ _ _ hj=>⟨(EM hj).2.1,(EM hj).2.2.2.2⟩
theorem iL {os:List AE} {x:Int} {s:Nat} (h:AA os x=(s:Int)):s<8∧(ob os s).live=true:=by
 have hb:=BH (l:=os) (id:=x) (by omega)
 have e:(AA os x).toNat=s:=by omega
 rw [e] at hb
 exact ⟨hb.2.2.2.1,hb.2.2.2.2.1⟩
theorem MR {os:List AE} {k:Nat} {x:Int}:x∈BE os k↔0≤x∧ ∃f∈(ob os k).field,AA os f=x:=by
 unfold BE
 simp only [List.mem_filter,List.mem_map,decide_eq_true_eq]
 exact ⟨fun ⟨h1,h2⟩=>⟨h2,h1⟩,fun ⟨h1,h2⟩=>⟨h2,h1⟩⟩
theorem Reach.P2 {a b:List AE} {s k:Nat} {P:Nat→Prop} (h:Reach a s k) (hs:P s) (hc: ∀y,P y→ ∀j∈BE a y,j∈BE b y∧P j.toNat):Reach b s k∧P k:=by
 induction h with
 | refl=>exact ⟨.refl,hs⟩
 | step _ hj ih=>
   obtain ⟨h1,h2⟩:=hc _ ih.2 _ hj
   exact ⟨.step ih.1 h1,h2⟩
theorem iJ {a b:List AE} (hl:a.length=b.length) (h: ∀i,(ob a i).live=(ob b i).live∧(ob a i).gen=(ob b i).gen∧(ob a i).field=(ob b i).field) (k:Nat):BE a k=BE b k:=by
 unfold BE
 rw [(h k).2.2]
 have:AA a=AA b:=funext fun x=>FZ hl fun i _=>⟨(h i).1,(h i).2.1⟩
 rw [this]
theorem Gd.upd {a b:List AE} {L L':List Int} (g:Gd a L) (hl:a.length=b.length) (h: ∀i,(ob a i).live=(ob b i).live∧(ob a i).gen=(ob b i).gen∧(ob a i).field=(ob b i).field)
  (hx: ∀e,pB a e→pB b e∨ ∃x∈L',AA b x=(e:Int)) (hL: ∀x∈L,0≤AA a x→x∈L'):Gd b L':=fun k hk hv=>by
 have kr: ∀{s y},Reach a s y→Reach b s y:=fun hr=>(hr.P2 (P:=fun _=>True) trivial fun y _ j hj=>⟨by rw [←iJ hl h];exact hj,trivial⟩).1
 have sl: ∀x,AA b x=AA a x:=fun x=>(FZ hl fun i _=>⟨(h i).1,(h i).2.1⟩).symm
 rcases g k hk (by rw [(h k).1];exact hv) with ⟨e,he,hr⟩ | ⟨x,hxL,s,hs,hr⟩
 ·rcases hx e he with he | ⟨x,hx,hs⟩
  ·exact .inl ⟨e,he,kr hr⟩
  ·exact .inr ⟨x,hx,e,hs,kr hr⟩
 ·exact .inr ⟨x,hL x hxL (by omega),s,by rw [sl];exact hs,kr hr⟩
theorem Gd.sW {a b:List AE} {L L':List Int} {w:Int} (g:Gd a L) (h: ∀i,(ob a i).live=(ob b i).live∧(ob a i).holds=(ob b i).holds∧(ob a i).roots=(ob b i).roots) (sl: ∀x,AA b x=AA a x)
  (hk: ∀y, ∀j∈BE a y,j∈BE b y∨j=AA b w) (hw:0≤AA b w→w∈L') (hL: ∀x∈L,x∈L'):Gd b L':=fun k k8 kv=>by
 have kr: ∀{s y},Reach a s y→Reach b s y∨ ∃t:Nat,AA b w=(t:Int)∧Reach b t y:=fun hr=>by
  induction hr with
  | refl=>exact .inl .refl
  | step hr hj ih=>
    rename_i y j
    have h0:=(EM hj).1
    rcases hk _ _ hj with h1 | h1
    ·rcases ih with ih | ⟨t,ht,ih⟩
     ·exact .inl (.step ih h1)
     ·exact .inr ⟨t,ht, .step ih h1⟩
    ·exact .inr ⟨j.toNat,by omega, .refl⟩
 have fin: ∀{s},Reach a s k→(Reach b s k→Cov b L' k)→Cov b L' k:=fun hr hc=>by
  rcases kr hr with hr | ⟨t,ht,hr⟩
  ·exact hc hr
  ·exact .inr ⟨w,hw (by omega),t,ht,hr⟩
 rcases g k k8 (by rw [(h k).1];exact kv) with ⟨e,he,hr⟩ | ⟨x,hx,s,hs,hr⟩
 ·exact fin hr fun hr=> .inl ⟨e,⟨he.lt,by rw [←(h e).1];exact he.lv,by rw [←(h e).2.1, ←(h e).2.2];exact he.pos⟩,hr⟩
 ·exact fin hr fun hr=> .inr ⟨x,hL x hx,s,by rw [sl];exact hs,hr⟩
theorem Gd.hold {os:List AE} {L L':List Int} {k:Nat} {v:AE} (g:Gd os L) (hk:k<os.length) (v1:v.live=(ob os k).live) (v2:v.gen=(ob os k).gen) (v3:v.field=(ob os k).field) (hx:0<v.holds+v.roots∨ ∃x∈L',AA os x=(k:Int)) (hL: ∀x∈L,x∈L'):Gd (os.set k v) L':=by
 have eo: ∀i,ob (os.set k v) i=if i=k then v else ob os i:=fun i=>GA hk
 have sm: ∀i,(ob os i).live=(ob (os.set k v) i).live∧(ob os i).gen=(ob (os.set k v) i).gen∧(ob os i).field=(ob (os.set k v) i).field:=fun i=>by
  rw [eo];split
  ·rename_i hh;subst hh;exact ⟨v1.symm,v2.symm,v3.symm⟩
  ·exact ⟨rfl,rfl,rfl⟩
 refine g.upd (by simp) sm (fun e he=> ?_) fun x h _=>hL x h
 by_cases hek:e=k
 ·rcases hx with hx | ⟨x,hx,hs⟩
  ·exact .inl ⟨he.lt,by rw [←(sm e).1];exact he.lv,by rw [eo,if_pos hek];exact hx⟩
  ·exact .inr ⟨x,hx,by rw [←FZ (by simp) fun i _=>⟨(sm i).1,(sm i).2.1⟩,hek];exact hs⟩
 ·exact .inl ⟨he.lt,by rw [←(sm e).1];exact he.lv,by rw [eo,if_neg hek];exact he.pos⟩
section
variable {os:List AE} {ns:Nat} {buf pd:List Int} {id:Int} {k:Nat}
theorem Gd.free (h:HP os ns buf (id::pd)) (hk:AA os id=(k:Int)) (hc:(ob os k).count≤1) (g:Gd os (buf++id::pd)):
  Gd (os.set k (CM (ob os k).gen)) ((buf.filter fun x=>decide (x≠id))++(pd++(ob os k).field.filter fun x=>decide (0≤x))):=by
 obtain ⟨k8,kv,kid,kg1,kg2,kid8,kc,kc1,kF⟩:=h.at hk
 have hol:=h.ol
 have hlv:=(h.obj k k8).lv kv
 have he0:BU os id=0:=by omega
 have eo: ∀i,ob (os.set k (CM (ob os k).gen)) i=if i=k then CM (ob os k).gen else ob os i:=fun i=>GA (by omega)
 have nof: ∀p,p<8→(ob os p).live=true→id∉(ob os p).field:=fun p hp hv=>UY he0 (by omega) hv
 have only: ∀x,AA os x=(k:Int)→x=id:=fun x hx=>by rw [MG hx kg1 kg2,kid]
 have sl: ∀x,x≠id→AA (os.set k (CM (ob os k).gen)) x=AA os x:=fun x hne=>by
  by_cases h8:x<8∨os.length≠8
  ·rw [MJ h8,MJ (by simpa using h8)]
  ·by_cases he:(x % 8).toNat=k
   ·have hnk:AA os x≠(k:Int):=fun hh=>hne (only x hh)
    have hneg:AA os x= -1:=by
     have hb:=BH (l:=os) (id:=x)
     unfold AA at hnk hb ⊢
     rw [if_neg h8] at hnk hb ⊢
     split
     ·rename_i hy
      rw [if_pos hy] at hnk
      omega
     ·rfl
    rw [hneg,NF (by rw [List.length_set];omega) (.inl (by rw [he,eo,if_pos rfl];rfl))]
   ·unfold AA
    rw [if_neg h8,if_neg (by simpa using h8),eo,if_neg he]
 have kk: ∀y,(y<8∧(ob os y).live=true∧y≠k)→ ∀j∈BE os y,j∈BE (os.set k (CM (ob os k).gen)) y∧(j.toNat<8∧(ob os j.toNat).live=true∧j.toNat≠k):=fun y ⟨y8,yv,yk⟩ j hj=>by
  have hb:=EM hj
  obtain ⟨h0,f,hf,hs⟩:=MR.1 hj
  have hfi:f≠id:=fun he=>nof y y8 yv (he ▸ hf)
  refine ⟨MR.2 ⟨h0,f, ?_,by rw [sl f hfi];exact hs⟩,hb.2.1,hb.2.2.2.2,fun hjk=>hfi (only f (by omega))⟩
  rw [eo,if_neg yk];exact hf
 have c1: ∀{s y},Reach os s y→(s<8∧(ob os s).live=true∧s≠k)→Reach (os.set k (CM (ob os k).gen)) s y:=fun hr hs=>(hr.P2 (P:=fun y=>y<8∧(ob os y).live=true∧y≠k) hs kk).1
 have c2: ∀{y},Reach os k y→y=k∨ ∃x∈(ob os k).field.filter fun x=>decide (0≤x), ∃s:Nat,AA (os.set k (CM (ob os k).gen)) x=(s:Int)∧Reach (os.set k (CM (ob os k).gen)) s y∧(y<8∧(ob os y).live=true∧y≠k):=fun {y} hr=>by
  induction hr with
  | refl=>exact .inl rfl
  | step hr' hj ih=>
    rename_i y j
    right
    rcases ih with rfl | ⟨x,hx,s,hs,hr,hy⟩
    ·have hb:=EM hj
     obtain ⟨h0,f,hf,hs⟩:=MR.1 hj
     have hfi:f≠id:=fun he=>nof y k8 kv (he ▸ hf)
     have hfb:=BH (l:=os) (id:=f) (by omega)
     refine ⟨f,List.mem_filter.2 ⟨hf,by simp;omega⟩,j.toNat,by rw [sl f hfi];omega, .refl,hb.2.1,hb.2.2.2.2,fun hjk=>hfi (only f (by omega))⟩
    ·obtain ⟨h1,h2⟩:=kk y hy _ hj
     exact ⟨x,hx,s,hs, .step hr h1,h2⟩
 intro y y8 yv
 rw [eo] at yv
 by_cases hyk:y=k
 ·rw [if_pos hyk] at yv;cases yv
 rw [if_neg hyk] at yv
 rcases g y y8 yv with ⟨e,he,hr⟩ | ⟨x,hx,s,hs,hr⟩
 ·have hek:e≠k:=fun hh=>by have:=he.pos;rw [hh] at this;omega
  exact .inl ⟨e,⟨he.lt,by rw [eo,if_neg hek];exact he.lv,by rw [eo,if_neg hek];exact he.pos⟩,c1 hr ⟨he.lt,he.lv,hek⟩⟩
 ·have sv:=iL hs
  by_cases hsk:s=k
  ·subst hsk
   rcases c2 hr with h' | ⟨x,hx,s',hs',hr',_⟩
   ·exact absurd h' hyk
   ·exact .inr ⟨x,by simp only [List.mem_append];exact .inr (.inr hx),s',hs',hr'⟩
  ·have hxi:x≠id:=fun hh=>hsk (by rw [hh,hk] at hs;omega)
   refine .inr ⟨x, ?_,s,by rw [sl x hxi];exact hs,c1 hr ⟨sv.1,sv.2,hsk⟩⟩
   rcases List.mem_append.1 hx with hx | hx
   ·exact List.mem_append_left _ (List.mem_filter.2 ⟨hx,by simpa using hxi⟩)
   ·rcases List.mem_cons.1 hx with hx | hx
    ·exact absurd hx hxi
    ·simp [hx]
end
end Go.Proofs.Ythapfcoajahegaa.P
namespace Go.Proofs.Ythapfcoajahegaa.P
open Go Go.Proofs.Ythapfcoajahegaa Go.Proofs.Ythapfcoajahegaa.Eng
set_option linter.unusedVariables false
section
variable {os:List AE} {ns:Nat} {buf pd pd':List Int} {k:Nat} {id:Int}
theorem HP.me (h:HP os ns buf pd) (hk:AA os id=(k:Int)):k<8∧(ob os k).live=true∧id=DA k (ob os k).gen:=by
 have hb:=BH (l:=os) (id:=id) (by omega)
 have e:(AA os id).toNat=k:=by omega
 rw [e] at hb
 have ho:=h.obj k hb.2.2.2.1
 exact ⟨hb.2.2.2.1,hb.2.2.2.2.1,MG hk (ho.lv hb.2.2.2.2.1).1 ho.gen.2⟩
theorem HP.upd (h:HP os ns buf pd) (hk:AA os id=(k:Int)) {v:AE} (v1:v.live=(ob os k).live) (v2:v.gen=(ob os k).gen) (v3:v.site=(ob os k).site) (v4:0≤v.holds∧v.holds≤20) (v5:0≤v.roots∧v.roots≤20) (v6:v.field=(ob os k).field) (v7:v.purple=(ob os k).purple) (vc:v.count=v.holds+v.roots+BU os id+pd'.count id) (vb:1≤v.count∧v.count≤1000) (hp: ∀x,x≠id→pd'.count x=pd.count x) (hl: ∀x∈pd',0≤AA os x):HP (os.set k v) ns buf pd':=by
 obtain ⟨k8,kv,kid⟩:=h.me hk
 have hok:=h.obj k k8
 have kg1:=(hok.lv kv).1
 have kg2:=hok.gen.2
 have hol:=h.ol
 have hkl:k<os.length:=by omega
 have sl: ∀x,AA (os.set k v) x=AA os x:=fun x=>FZ (by simp) fun i hi=>by
  rw [GA hkl];split
  ·rename_i he;subst he;exact ⟨v1,v2⟩
  ·exact ⟨rfl,rfl⟩
 have ed: ∀x,BU (os.set k v) x=BU os x:=fun x=>Q0 (by simp) fun i hi=>by
  rw [GA hkl];split
  ·rename_i he;subst he;exact ⟨v1,v6⟩
  ·exact ⟨rfl,rfl⟩
 refine ⟨by simpa using hol,fun i hi=> ?_,h.bnd,fun x hx=>by rw [sl];exact h.blv x hx,fun x hx=>by rw [sl];exact hl x hx⟩
 have ho:=h.obj i hi
 by_cases hik:i=k
 ·subst hik
  have e:ob (os.set i v) i=v:=by rw [GA hkl,if_pos rfl]
  obtain ⟨g1,g2,g3,g4,g5,g6,g7⟩:=ho.lv kv
  refine ⟨by rw [e,v2];exact ho.gen,by rw [e,v6];exact ho.len,by rw [e];exact vb.2,fun f hf hne=> ?_,fun hd=> ?_,fun _=> ?_⟩
  ·rw [e,v6] at hf;rw [e,v1,sl];exact ho.lead f hf hne
  ·rw [e,v1,kv] at hd;cases hd
  ·rw [e,v2,v3,ed,v7, ←kid]
   rw [←kid] at g7
   exact ⟨g1,g2,v4,v5,vc,vb.1,g7⟩
 ·have e:ob (os.set k v) i=ob os i:=by rw [GA hkl,if_neg hik]
  refine ⟨by rw [e];exact ho.gen,by rw [e];exact ho.len,by rw [e];exact ho.cb,fun f hf hne=> ?_,fun hd=> ?_,fun hv=> ?_⟩
  ·rw [e] at hf;rw [e,sl];exact ho.lead f hf hne
  ·rw [e] at hd ⊢;exact ho.dead hd
  ·rw [e] at hv ⊢
   obtain ⟨g1,g2,g3,g4,g5,g6,g7⟩:=ho.lv hv
   have hne:DA i (ob os i).gen≠id:=by rw [kid];exact X5 hi k8 g1 ho.gen.2 kg1 kg2 hik
   exact ⟨g1,g2,g3,g4,by rw [ed,hp _ hne];exact g5,g6,g7⟩
theorem HP.TL (h:HP os ns buf []) (hk:AA os id=(k:Int)):(ob os k).count=(ob os k).holds+(ob os k).roots+BU os id∧1≤(ob os k).count∧(ob os k).count≤64∧(0≤(ob os k).holds∧(ob os k).holds≤20)∧(0≤(ob os k).roots∧(ob os k).roots≤20):=by
 obtain ⟨k8,kv,kid⟩:=h.me hk
 obtain ⟨_,_,g3,g4,g5,g6,_⟩:=(h.obj k k8).lv kv
 rw [←kid] at g5
 have hed:=UD (l:=os) (id:=id) (b:=3) fun o ho'=>by
  obtain ⟨i,hi,rfl⟩:=List.getElem_of_mem ho'
  rw [ID hi,(h.obj i (by have:=h.ol;omega)).len];omega
 have hol:=h.ol
 simp only [List.count_nil] at g5
 exact ⟨by omega,g6,by omega,g3,g4⟩
theorem ZU {os:List AE} {id:Int} {k:Nat} {v:AE} (hk:AA os id=(k:Int)) (hkl:k<os.length) (v1:v.live=(ob os k).live) (v2:v.gen=(ob os k).gen):GQ (os.set k v) id=os.set k {v with count:=w64 (v.count+1)}:=by
 have sl:AA (os.set k v) id=k:=by
  rw [←hk]
  exact FZ (by simp) fun i hi=>by
   rw [GA hkl];split
   ·rename_i he;subst he;exact ⟨v1,v2⟩
   ·exact ⟨rfl,rfl⟩
 have e:ob (os.set k v) k=v:=by rw [GA hkl,if_pos rfl]
 unfold GQ
 rw [sl,if_neg (by omega),Int.toNat_natCast,e,List.set_set]
def MO (a b:List AE):Prop:=b.length=a.length∧ ∀i,(ob b i).live=(ob a i).live∧(ob b i).gen=(ob a i).gen∧(ob b i).site=(ob a i).site
theorem MO.set {os:List AE} {k:Nat} {v:AE} (hk:k<os.length) (h1:v.live=(ob os k).live) (h2:v.gen=(ob os k).gen) (h3:v.site=(ob os k).site):MO os (os.set k v):=by
 refine ⟨by simp,fun i=> ?_⟩
 rw [GA hk];split
 ·rename_i he;subst he;exact ⟨h1,h2,h3⟩
 ·exact ⟨rfl,rfl,rfl⟩
def Mid (os:List AE) (ns:Nat) (buf:List Int) (r:List AE×List Int×An):Prop:=
 (∃c:Int,(1≤c∧c≤6)∧r=(os,buf,⟨c,0,[]⟩))∨(∃os1,HP os1 ns buf []∧MO os os1∧(Gd os buf→Gd os1 buf)∧r=(os1,buf,⟨0,0,[]⟩))∨
 ∃os1 x,HP os1 ns buf [x]∧MO os os1∧(Gd os buf→Gd os1 (buf++[x]))∧r=PW (OB os1 buf [x])
def oN (G:List AE→Prop) (os:List AE) (ns:Nat) (buf:List Int) (r:List AE×List Int×An):Prop:=
 (∃c:Int,(1≤c∧c≤6)∧r=(os,buf,⟨c,0,[]⟩))∨(∃os1,HP os1 ns buf []∧MO os os1∧(Gd os buf→Gd os1 buf)∧G os1∧r=(os1,buf,⟨0,0,[]⟩))∨
 ∃os1 x,HP os1 ns buf [x]∧MO os os1∧(Gd os buf→Gd os1 (buf++[x]))∧G os1∧r=PW (OB os1 buf [x])
theorem oN.mid {G:List AE→Prop} {r:List AE×List Int×An} (m:oN G os ns buf r):Mid os ns buf r:=by
 rcases m with ⟨c,h,rfl⟩ | ⟨os1,h1,h2,h3,_,rfl⟩ | ⟨os1,x,h1,h2,h3,_,rfl⟩
 ·exact .inl ⟨c,h,rfl⟩
 ·exact .inr (.inl ⟨os1,h1,h2,h3,rfl⟩)
 ·exact .inr (.inr ⟨os1,x,h1,h2,h3,rfl⟩)
def hdM (kd v:Int):Int:=if kd=2 then v+1 else if kd=3 then v-1 else v
def rtM (kd v:Int):Int:=if kd=5 then v+1 else if kd=2∨kd=3 then v else v-1
def T4 (os os1:List AE) (kd id:Int):Prop:= ∀i:Nat,(ob os1 i).live=(ob os i).live∧(ob os1 i).gen=(ob os i).gen∧(ob os1 i).field=(ob os i).field∧(ob os1 i).holds=(if AA os id=(i:Int) then hdM kd (ob os i).holds else (ob os i).holds)∧(ob os1 i).roots=if AA os id=(i:Int) then rtM kd (ob os i).roots else (ob os i).roots
theorem T4.mk {k:Nat} {v:AE} {kd:Int} (hk:AA os id=(k:Int)) (hkl:k<os.length) (v1:v.live=(ob os k).live) (v2:v.gen=(ob os k).gen) (v3:v.field=(ob os k).field) (v4:v.holds=hdM kd (ob os k).holds) (v5:v.roots=rtM kd (ob os k).roots):T4 os (os.set k v) kd id:=fun i=>by
 rw [GA hkl]
 by_cases hi:i=k
 ·subst hi
  rw [if_pos rfl,if_pos hk,if_pos hk]
  exact ⟨v1,v2,v3,v4,v5⟩
 ·rw [if_neg hi,if_neg (by omega),if_neg (by omega)]
  exact ⟨rfl,rfl,rfl,rfl,rfl⟩
def lS (os os1:List AE) (a b c:Int):Prop:= ∀i:Nat,(ob os1 i).live=(ob os i).live∧(ob os1 i).gen=(ob os i).gen∧(ob os1 i).holds=(ob os i).holds∧(ob os1 i).roots=(ob os i).roots∧(ob os1 i).field=if AA os a=(i:Int) then (ob os i).field.set b.toNat c else (ob os i).field
theorem Mid.ok {r:List AE×List Int×An} (h:HP os ns buf []) (m:Mid os ns buf r):HP r.1 ns r.2.1 []:=by
 rcases m with ⟨c,_,rfl⟩ | ⟨os1,h1,_,_,rfl⟩ | ⟨os1,x,h1,_,_,rfl⟩
 ·exact h
 ·exact h1
 ·exact HP.OB h1
theorem HP.hS (h:HP os ns buf []) {kd:Int}:oN (fun os1=>T4 os os1 kd id) os ns buf (SA os buf kd id):=by
 unfold SA
 by_cases hs:AA os id<0
 ·rw [if_pos hs];exact .inl ⟨1,by decide,rfl⟩
 rw [if_neg hs]
 obtain ⟨k,hk⟩: ∃k:Nat,AA os id=(k:Int):=⟨(AA os id).toNat,by omega⟩
 rw [hk,Int.toNat_natCast]
 obtain ⟨c1,c2,c3,c4,c5⟩:=h.TL hk
 have hkl:k<os.length:=by have:=(h.me hk).1;have:=h.ol;omega
 have ew:w64 ((ob os k).count+1)=(ob os k).count+1:=ON ⟨by omega,by omega⟩
 have hls:0≤AA os id:=by omega
 split
 ·split
  ·exact .inl ⟨4,by decide,rfl⟩
  ·simp only
   rw [ZU hk hkl]
   ·simp only [ew]
    refine .inr (.inl ⟨_, ?_, ?_, ?_, ?_,rfl⟩)
    ·exact h.upd hk rfl rfl rfl (by simp only;omega) (by simp only;omega) rfl rfl (by simp only [List.count_nil];omega) (by simp only;omega) (fun _ _=>rfl) (by simp)
    ·exact MO.set hkl rfl rfl rfl
    ·exact fun g=>g.hold hkl rfl rfl rfl (.inl (by simp only;omega)) fun _ h=>h
    ·exact T4.mk hk hkl rfl rfl rfl (by simp [hdM, *]) (by simp [rtM, *])
   ·rfl
   ·rfl
 ·split
  ·split
   ·exact .inl ⟨4,by decide,rfl⟩
   ·simp only
    rw [ZU hk hkl]
    ·simp only [ew]
     refine .inr (.inl ⟨_, ?_, ?_, ?_, ?_,rfl⟩)
     ·exact h.upd hk rfl rfl rfl (by simp only;omega) (by simp only;omega) rfl rfl (by simp only [List.count_nil];omega) (by simp only;omega) (fun _ _=>rfl) (by simp)
     ·exact MO.set hkl rfl rfl rfl
     ·exact fun g=>g.hold hkl rfl rfl rfl (.inl (by simp only;omega)) fun _ h=>h
     ·exact T4.mk hk hkl rfl rfl rfl (by simp [hdM, *]) (by simp [rtM, *])
    ·rfl
    ·rfl
  ·split
   ·split
    ·exact .inl ⟨5,by decide,rfl⟩
    ·refine .inr (.inr ⟨_,_, ?_, ?_, ?_, ?_,rfl⟩)
     ·exact h.upd (pd':=[id]) hk rfl rfl rfl (by simp only;omega) (by simp only;omega) rfl rfl (by simp only [List.count_singleton_self];omega) (by simp only;omega) (fun x hx=>by simp [Ne.symm hx]) (by simpa using hls)
     ·exact MO.set hkl rfl rfl rfl
     ·exact fun g=>g.hold hkl rfl rfl rfl (.inr ⟨id,by simp,hk⟩) fun _ h=>List.mem_append_left _ h
     ·exact T4.mk hk hkl rfl rfl rfl (by simp [hdM, *]) (by simp [rtM, *])
   ·split
    ·exact .inl ⟨5,by decide,rfl⟩
    ·refine .inr (.inr ⟨_,_, ?_, ?_, ?_, ?_,rfl⟩)
     ·exact h.upd (pd':=[id]) hk rfl rfl rfl (by simp only;omega) (by simp only;omega) rfl rfl (by simp only [List.count_singleton_self];omega) (by simp only;omega) (fun x hx=>by simp [Ne.symm hx]) (by simpa using hls)
     ·exact MO.set hkl rfl rfl rfl
     ·exact fun g=>g.hold hkl rfl rfl rfl (.inr ⟨id,by simp,hk⟩) fun _ h=>List.mem_append_left _ h
     ·exact T4.mk hk hkl rfl rfl rfl (by simp [hdM, *]) (by simp [rtM, *])
theorem HP.jZ (h:HP os ns buf []) {kd:Int}:Mid os ns buf (SA os buf kd id):=h.hS.mid
theorem HP.hold (h:HP os ns buf []) {kd:Int}:HP (SA os buf kd id).1 ns (SA os buf kd id).2.1 []:=h.jZ.ok h
theorem h9 {os:List AE} {c:Int} {i:Nat} (hol:os.length=8):(ob (GQ os c) i).count=if AA os c=(i:Int) then w64 ((ob os i).count+1) else (ob os i).count:=by
 unfold GQ
 split
 ·rw [if_neg (by omega)]
 ·have hb:=BH (l:=os) (id:=c) (by omega)
  rw [GA (by omega)]
  by_cases hi:i=(AA os c).toNat
  ·rw [if_pos hi,if_pos (by omega), ←hi]
  ·rw [if_neg hi,if_neg (by omega)]
theorem HP.bP (h:HP os ns buf []) {a b c:Int}:oN (fun os1=>lS os os1 a b c) os ns buf (OL os buf a b c):=by
 unfold OL
 by_cases hs:AA os a<0∨(c≠ -1∧AA os c<0)
 ·rw [if_pos hs];exact .inl ⟨1,by decide,rfl⟩
 rw [if_neg hs]
 by_cases hb: ¬(0≤b∧b≤2)
 ·rw [if_pos hb];exact .inl ⟨2,by decide,rfl⟩
 rw [if_neg hb]
 obtain ⟨k,hk⟩: ∃k:Nat,AA os a=(k:Int):=⟨(AA os a).toNat,by omega⟩
 rw [hk,Int.toNat_natCast]
 obtain ⟨j,hj⟩: ∃j:Nat,b.toNat=j:=⟨_,rfl⟩
 rw [hj]
 obtain ⟨k8,kv,kid⟩:=h.me hk
 have hok:=h.obj k k8
 have hol:=h.ol
 have hkl:k<os.length:=by omega
 have gl:=iQ os c
 have hkg:k<(GQ os c).length:=by omega
 have jl:j<(ob os k).field.length:=by rw [hok.len];omega
 have gob:=fun i=>jM (os:=os) (id:=c) (i:=i)
 obtain ⟨os2,hos2⟩: ∃os2,os2=(GQ os c).set k {ob (GQ os c) k with field:=(ob os k).field.set j c}:=⟨_,rfl⟩
 rw [←hos2]
 have eo: ∀i,ob os2 i=if i=k then {ob (GQ os c) k with field:=(ob os k).field.set j c} else ob (GQ os c) i:=fun i=>by rw [hos2];exact GA hkg
 have l2:os2.length=os.length:=by rw [hos2,List.length_set,gl]
 have same: ∀i,(ob os2 i).live=(ob os i).live∧(ob os2 i).gen=(ob os i).gen∧(ob os2 i).site=(ob os i).site∧(ob os2 i).holds=(ob os i).holds∧(ob os2 i).roots=(ob os i).roots∧(ob os2 i).purple=(ob os i).purple:=fun i=>by
  obtain ⟨q1,q2,q3,q4,q5,_,q7⟩:=gob i
  rw [eo];split
  ·rename_i he;subst he;exact ⟨q1,q2,q3,q4,q5,q7⟩
  ·exact ⟨q1,q2,q3,q4,q5,q7⟩
 have sml:MO os os2:=⟨l2,fun i=>⟨(same i).1,(same i).2.1,(same i).2.2.1⟩⟩
 have sl: ∀x,AA os2 x=AA os x:=fun x=>FZ l2 fun i hi=>⟨(same i).1,(same i).2.1⟩
 have cn: ∀i,(ob os2 i).count=if AA os c=(i:Int) then w64 ((ob os i).count+1) else (ob os i).count:=fun i=>by
  rw [eo, ←h9 hol];split
  ·rename_i he;subst he;rfl
  ·rfl
 have fdk:(ob os2 k).field=(ob os k).field.set j c:=by rw [eo,if_pos rfl]
 have fdo: ∀i,i≠k→(ob os2 i).field=(ob os i).field:=fun i hi=>by rw [eo,if_neg hi];exact (gob i).2.2.2.2.2.1
 obtain ⟨was,hwas⟩: ∃w,gI (ob os k).field j=w:=⟨_,rfl⟩
 rw [hwas]
 have hwm:was∈(ob os k).field:=by rw [←hwas];exact N0 jl
 have eg: ∀x,BU (GQ os c) x=BU os x:=fun x=>Q0 gl fun i hi=>⟨(gob i).1,(gob i).2.2.2.2.2.1⟩
 have ed: ∀x,(BU os2 x:Int)+(if was=x then 1 else 0)=BU os x+(if c=x then 1 else 0):=fun x=>by
  have e:=RJ (os:=GQ os c) (v:={ob (GQ os c) k with field:=(ob os k).field.set j c}) (id:=x) hkg
  rw [←hos2,eg,JB (by rw [(gob k).1];exact kv),JB (by simp only;rw [(gob k).1];exact kv),(gob k).2.2.2.2.2.1] at e
  simp only at e
  have ec:=List.count_set (a:=c) (b:=x) jl
  rw [I6 jl,hwas] at ec
  have hcp:was=x→0<(ob os k).field.count x:=fun he=>List.count_pos_iff.2 (he ▸ hwm)
  simp only [beq_iff_eq] at ec
  by_cases h1:was=x
  ·have:=hcp h1
   by_cases h2:c=x
   ·rw [if_pos h1,if_pos h2] at ec ⊢;omega
   ·rw [if_pos h1,if_neg h2] at ec ⊢;omega
  ·by_cases h2:c=x
   ·rw [if_neg h1,if_pos h2] at ec ⊢;omega
   ·rw [if_neg h1,if_neg h2] at ec ⊢;omega
 have key: ∀pd':List Int,(∀x,8≤x→(pd'.count x:Int)=if was=x then 1 else 0)→(∀x∈pd',0≤AA os x)→HP os2 ns buf pd':=fun pd' hp hpl=>by
  refine ⟨by omega,fun i hi=> ?_,h.bnd,fun x hx=>by rw [sl];exact h.blv x hx,fun x hx=>by rw [sl];exact hpl x hx⟩
  have ho:=h.obj i hi
  obtain ⟨q1,q2,q3,q4,q5,q7⟩:=same i
  have hc8:AA os c=(i:Int)→(ob os i).live=true∧c=DA i (ob os i).gen:=fun hh=>⟨(h.me hh).2.1,(h.me hh).2.2⟩
  have wc: ∀(hv:(ob os i).live=true),(ob os2 i).count=(ob os i).count+if c=DA i (ob os i).gen then 1 else 0:=fun hv=>by
   have hsid:=I3 hol hi hv (ho.lv hv).1 ho.gen.2
   have:=ho.cb;have:=(ho.lv hv).2.2.2.2.2.1
   rw [cn]
   by_cases hh:AA os c=(i:Int)
   ·rw [if_pos hh,if_pos (hc8 hh).2,ON ⟨by omega,by omega⟩]
   ·rw [if_neg hh,if_neg fun he=>hh (by rw [he];exact hsid)];omega
  refine ⟨by rw [q2];exact ho.gen, ?_, ?_,fun f hf hne=> ?_,fun hd=> ?_,fun hv=> ?_⟩
  ·by_cases hik:i=k
   ·rw [hik,fdk,List.length_set];exact hok.len
   ·rw [fdo i hik];exact ho.len
  ·cases hv:(ob os i).live with
   | true=>
     have hcl:=(h.TL (I3 hol hi hv (ho.lv hv).1 ho.gen.2)).2.2.1
     rw [wc hv];split <;> omega
   | false=>
     rw [cn,if_neg fun hh=>by have:=(hc8 hh).1;rw [hv] at this;cases this]
     exact ho.cb
  ·rw [q1,sl]
   by_cases hik:i=k
   ·subst hik
    rw [fdk] at hf
    rcases List.mem_or_eq_of_mem_set hf with hf | rfl
    ·exact ho.lead f hf hne
    ·exact ⟨kv,by omega⟩
   ·rw [fdo i hik] at hf;exact ho.lead f hf hne
  ·rw [q1] at hd
   rw [q3,q4,q5,q7,cn,if_neg fun hh=>by have:=(hc8 hh).1;rw [hd] at this;cases this]
   exact ho.dead hd
  ·rw [q1] at hv
   obtain ⟨g1,g2,g3,g4,g5,g6,g7⟩:=ho.lv hv
   have hid8:8≤DA i (ob os i).gen:=by rw [HY hi g1 ho.gen.2];omega
   have e1:=ed (DA i (ob os i).gen)
   have e2:=hp _ hid8
   have e3:=wc hv
   simp only [List.count_nil] at g5
   rw [q2,q3,q4,q5,q7,e3]
   refine ⟨g1,g2,g3,g4, ?_, ?_,g7⟩
   ·rw [e2]
    split <;> split at e1 <;> simp_all <;> omega
   ·split <;> omega
 have gd2: ∀L':List Int,(0≤AA os was→was∈L')→(∀x∈buf,x∈L')→Gd os buf→Gd os2 L':=fun L' hw hL g=>
  g.sW (w:=was) (fun i=>⟨(same i).1.symm,(same i).2.2.2.1.symm,(same i).2.2.2.2.1.symm⟩) sl (fun y x hx=>by
    obtain ⟨h0,f,hf,hs⟩:=MR.1 hx
    by_cases hy:y=k
    ·subst hy
     by_cases hfw:f=was
     ·right;rw [sl, ←hfw,hs]
     ·left
      refine MR.2 ⟨h0,f, ?_,by rw [sl];exact hs⟩
      rw [fdk]
      obtain ⟨i,hi,rfl⟩:=List.getElem_of_mem hf
      have hij:j≠i:=fun he=>hfw (by subst he;rw [I6 hi];exact hwas)
      exact List.mem_iff_getElem.2 ⟨i,by simpa using hi,List.getElem_set_ne hij _⟩
    ·left
     exact MR.2 ⟨h0,f,by rw [fdo y hy];exact hf,by rw [sl];exact hs⟩) (by rw [sl];exact hw) hL
 have stg:lS os os2 a b c:=fun i=>by
  refine ⟨(same i).1,(same i).2.1,(same i).2.2.2.1,(same i).2.2.2.2.1, ?_⟩
  rw [hk,hj]
  by_cases hi:i=k
  ·subst hi;rw [if_pos rfl];exact fdk
  ·rw [if_neg (by omega)];exact fdo i hi
 split
 ·rename_i hw
  exact .inr (.inl ⟨_,key [] (fun x hx=>by rw [if_neg (by omega)];rfl) (by simp),sml,gd2 buf (fun hh=>by rw [hw] at hh;exact absurd hh (by rw [MJ (.inl (by omega))];omega)) fun _ h=>h,stg,rfl⟩)
 ·rename_i hw
  exact .inr (.inr ⟨_,_,key [was] (fun x hx=>by rw [List.count_singleton];by_cases he:was=x <;> simp [he]) (by simpa using (hok.lead was hwm hw).2),sml,gd2 (buf++[was]) (fun _=>by simp) fun _ h=>List.mem_append_left _ h,stg,rfl⟩)
theorem HP.gY (h:HP os ns buf []) {a b c:Int}:Mid os ns buf (OL os buf a b c):=h.bP.mid
theorem HP.store (h:HP os ns buf []) {a b c:Int}:HP (OL os buf a b c).1 ns (OL os buf a b c).2.1 []:=h.gY.ok h
theorem lL {l:List Nat} (h: ∀n∈l,n=0):l.sum=0:=by
 induction l with
 | nil=>rfl
 | cons x l ih=>rw [List.sum_cons,h x (by simp),ih fun n hn=>h n (by simp [hn])]
theorem HP.put (h:HP os ns buf []) (k8:k<8) (hd:(ob os k).live=false) (hg:(ob os k).gen<999) {t:Int} {ns':Nat} (hn:ns≤ns') (ht:0≤t∧t≤(ns':Int)-1):HP (os.set k (M7 ((ob os k).gen+1) t)) ns' buf []:=by
 have hol:=h.ol
 have hkl:k<os.length:=by omega
 have hgk:=(h.obj k k8).gen
 have eo: ∀i,ob (os.set k (M7 ((ob os k).gen+1) t)) i=if i=k then M7 ((ob os k).gen+1) t else ob os i:=fun i=>GA hkl
 have sl: ∀x,0≤AA os x→AA (os.set k (M7 ((ob os k).gen+1) t)) x=AA os x:=fun x hx=>by
  have hb:=BH hx
  have hne:(x % 8).toNat≠k:=fun he=>by
   have:=hb.2.2.2.2.1
   have e:(AA os x).toNat=k:=by omega
   rw [e,hd] at this;cases this
  simp only [AA,List.length_set]
  rw [eo,if_neg hne]
 have ed: ∀x,0≤x→BU (os.set k (M7 ((ob os k).gen+1) t)) x=BU os x:=fun x hx=>by
  have e:=RJ (os:=os) (v:=M7 ((ob os k).gen+1) t) (id:=x) hkl
  rw [PD hd,JB (o:=M7 ((ob os k).gen+1) t) rfl] at e
  have:(M7 ((ob os k).gen+1) t).field.count x=0:=List.count_eq_zero.2 fun hm=>by simp [M7,SG] at hm;omega
  omega
 have nosl: ∀x,0≤AA os x→x≠DA k ((ob os k).gen+1):=fun x hx he=>by
  have hb:=BH hx
  rw [HY k8 (by omega) (by omega)] at he
  have e:(AA os x).toNat=k:=by omega
  have:=hb.2.2.2.2.1
  rw [e,hd] at this;cases this
 refine ⟨by simpa using hol,fun i hi=> ?_,h.bnd,fun x hx=>by rw [sl x (h.blv x hx)];exact h.blv x hx,by simp⟩
 have ho:=h.obj i hi
 by_cases hik:i=k
 ·subst hik
  have e:ob (os.set i (M7 ((ob os i).gen+1) t)) i=M7 ((ob os i).gen+1) t:=by rw [eo,if_pos rfl]
  refine ⟨by rw [e];simp only [M7];omega,by rw [e];rfl,by rw [e];simp [M7],fun f hf hne=> ?_,fun hh=>(by rw [e] at hh;cases hh),fun _=> ?_⟩
  ·rw [e] at hf;simp [M7,SG] at hf;exact absurd hf hne
  ·rw [e]
   simp only [M7]
   have hz:BU os (DA i ((ob os i).gen+1))=0:=by
    unfold BU
    refine lL fun n hn=> ?_
    obtain ⟨o,ho',rfl⟩:=List.mem_map.1 hn
    obtain ⟨j,hj,rfl⟩:=List.getElem_of_mem ho'
    rw [ID hj]
    cases hv:(ob os j).live with
    | false=>exact PD hv
    | true=>
      rw [JB hv]
      refine List.count_eq_zero.2 fun hm=> ?_
      have hpos:DA i ((ob os i).gen+1)≠ -1:=by rw [HY k8 (by omega) (by omega)];omega
      exact nosl _ ((h.obj j (by omega)).lead _ hm hpos).2 rfl
   have hed:=ed (DA i ((ob os i).gen+1)) (by rw [HY k8 (by omega) (by omega)];omega)
   have hed2:BU (os.set i (M7 ((ob os i).gen+1) t)) (DA i ((ob os i).gen+1))=0:=by rw [hed,hz]
   simp only [M7] at hed2
   refine ⟨by omega,ht,by omega,by omega,by rw [hed2];simp,by omega,⟨fun hh=>(by cases hh),fun hm=>absurd rfl (nosl _ (h.blv _ hm))⟩⟩
 ·have e:ob (os.set k (M7 ((ob os k).gen+1) t)) i=ob os i:=by rw [eo,if_neg hik]
  refine ⟨by rw [e];exact ho.gen,by rw [e];exact ho.len,by rw [e];exact ho.cb,fun f hf hne=> ?_,fun hh=> ?_,fun hv=> ?_⟩
  ·rw [e] at hf;have:=ho.lead f hf hne;rw [e,sl f this.2];exact this
  ·rw [e] at hh ⊢;exact ho.dead hh
  ·rw [e] at hv ⊢
   obtain ⟨g1,g2,g3,g4,g5,g6,g7⟩:=ho.lv hv
   exact ⟨g1,by omega,g3,g4,by rw [ed _ (by rw [HY hi g1 ho.gen.2];omega)];exact g5,g6,g7⟩
end
theorem at_mem {l:List ByteArray} {s:ByteArray}:at_ l s<0↔s∉l:=by
 unfold at_;split
 ·rename_i h;simp [h]
 ·rename_i h;simp [h]
theorem NH.snoc {l:List ByteArray} {s:ByteArray} (h:NH l) (h6:l.length<6) (hs:1≤(s.size:Int)∧(s.size:Int)≤8) (hn:s∉l):NH (l++[s]):=by
 have e: ∀i,i<l.length→gS (l++[s]) i=gS l i:=fun i hi=>by
  rw [←aN (by simp;omega), ←aN hi,List.getElem_append_left hi]
 have e2:gS (l++[s]) l.length=s:=by rw [←aN (by simp)];simp
 refine ⟨by simp;omega,fun i hi=> ?_,fun i hi=> ?_⟩
 ·by_cases hl:i<l.length
  ·rw [e i hl];exact h.sz i hl
  ·have:i=l.length:=by simp at hi;omega
   rw [this,e2];exact hs
 ·by_cases hl:i<l.length
  ·rw [e i hl,List.take_append_of_le_length (by omega)];exact h.one i hl
  ·have:i=l.length:=by simp at hi;omega
   rw [this,e2];simpa using hn
theorem kU {os:List AE} {buf:List Int} {ss:List ByteArray} {s:ByteArray} (h:HP os ss.length buf []) (hs:NH ss):HP (P3 os ss s).1 (P3 os ss s).2.1.length buf []∧NH (P3 os ss s).2.1:=by
 unfold P3
 by_cases hb: ¬(1≤(s.size:Int)∧(s.size:Int)≤8)
 ·rw [if_pos hb];exact ⟨h,hs⟩
 rw [if_neg hb]
 by_cases hf:EF os<0
 ·rw [if_pos hf];exact ⟨h,hs⟩
 rw [if_neg hf]
 obtain ⟨f1,f2,f3⟩:=ZD hf
 have hol:=h.ol
 simp only [XC,Bool.and_eq_true,Bool.not_eq_true',decide_eq_true_eq] at f3
 have hg:=(h.obj (EF os).toNat (by omega)).gen
 have ew:w64 ((ob os (EF os).toNat).gen+1)=(ob os (EF os).toNat).gen+1:=ON ⟨by omega,by omega⟩
 by_cases h6:at_ ss s<0∧6≤ss.length
 ·rw [if_pos h6];exact ⟨h,hs⟩
 rw [if_neg h6,ew]
 simp only
 by_cases ha:at_ ss s<0
 ·rw [if_pos ha,if_pos ha]
  exact ⟨h.put (by omega) f3.1 f3.2 (by simp) (by simp),hs.snoc (by omega) (Decidable.not_not.1 hb) (at_mem.1 ha)⟩
 ·rw [if_neg ha,if_neg ha]
  have hm:s∈ss:=Decidable.byContradiction fun hn=>ha (at_mem.2 hn)
  have hat:at_ ss s≤(ss.length:Int)-1:=by
   unfold at_;rw [if_pos hm]
   have:=List.idxOf_lt_length_of_mem hm
   omega
  exact ⟨h.put (by omega) f3.1 f3.2 (Nat.le_refl _) ⟨by omega,hat⟩,hs⟩
end Go.Proofs.Ythapfcoajahegaa.P
