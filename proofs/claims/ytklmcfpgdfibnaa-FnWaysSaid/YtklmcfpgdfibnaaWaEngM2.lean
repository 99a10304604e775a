/- A part of the proof. -/
import Derived.Test.YtklmcfpgdfibnaaWaEngM1
import Derived.Deep.Slices
import Derived.OpenShut
import Derived.ChangeArms
import Derived.Carry
namespace Go.Proofs.Ytklmcfpgdfibnaa.Eng
open Go Go.RowKit
set_option linter.unusedVariables false
set_option linter.unusedSimpArgs false
theorem R6 {P:Program} {env env':Env} {fields:Array Field}: ∀{l:List (Nat×Operand)},(∀p∈l,ev env' p.2=ev env p.2)→HT P env' fields l=HT P env fields l
 | [],_=>rfl
 | (i,x)::r,h=>by
   simp only [HT]
   rw [R6 fun p hp=>h p (List.mem_cons_of_mem _ hp),h (i,x) (by simp)]
theorem NI {env env':Env} {sz:Nat}: ∀{l:List (Nat×Operand)},(∀p∈l,ev env' p.2=ev env p.2)→F7 env' sz l=F7 env sz l
 | [],_=>rfl
 | (i,x)::r,h=>by
   simp only [F7]
   rw [NI fun p hp=>h p (List.mem_cons_of_mem _ hp),h (i,x) (by simp)]
theorem dQ {P:Program} {env env':Env} (o:Oper) (h: ∀x∈o.op.operands,ev env' x=ev env x):BC P env' o=BC P env o:=by
 obtain ⟨dst,op,type,pos,after,guard⟩:=o
 cases op <;> simp only [Op.operands] at h <;> simp only [BC]
 case build t ps=>
  have hp: ∀p∈ps.toList,ev env' p.2=ev env p.2:=fun p hp=>h p.2 (by simp;exact ⟨p.1,by simpa using hp⟩)
  have e1: ∀fields,HT P env' fields ps.toList=HT P env fields ps.toList:=fun _=>R6 hp
  have e2: ∀sz,F7 env' sz ps.toList=F7 env sz ps.toList:=fun _=>NI hp
  simp only [e1,e2]
 case buildSlice t n ps=>
  have hp: ∀p∈ps.toList,ev env' p.2=ev env p.2:=fun p hp=>h p.2 (by simp;exact ⟨p.1,by simpa using hp⟩)
  have e2: ∀sz,F7 env' sz ps.toList=F7 env sz ps.toList:=fun _=>NI hp
  simp only [e2]
 case slice t x lo hi mx=>
  have hx:=h x (by simp)
  cases mx with
  | some m=>rfl
  | none=>
    cases lo <;> cases hi <;> simp_all [BC]
 case call c=>
  have ha: ∀x∈c.args.toList,ev env' x=ev env x:=fun x hx=>h x (by simp [Call.operands];exact .inr (by simpa using hx))
  have hm:c.args.toList.map (ev env')=c.args.toList.map (ev env):=List.map_congr_left ha
  rw [hm]
  split
  ·rfl
  ·split
   ·rename_i hts has
    rw [ha _ (by rw [has];simp)]
   ·rfl
  ·split
   ·rename_i x y has
    rw [ha x (by rw [has];simp),ha y (by rw [has];simp)]
   ·rfl
  ·split
   ·rename_i t u x y hts has
    rw [ha x (by rw [has];simp),ha y (by rw [has];simp)]
   ·rfl
  ·rfl
 all_goals first
  | rfl
  | (simp_all;done)
theorem cA {ρ:Rho} {env:Env} {a:Act} (T:List Nat) (h: ∀t∈T,VR ρ (lk env t) (a.tmps.getD t undef)): ∀(L:List Nat) (i:Nat) (xs:List Value),(∀t∈L,t∈T)→(∀(j:Nat) t,L[j]? =some t→nx xs (i+j)=lk env t)→VRE ρ (inj L i xs) a
 | [],i,xs,_,_=>fun t=>RG _ _
 | l::L,i,xs,hT,hx=>fun t=>by
   simp only [inj,NA]
   by_cases ht:l=t
   ·subst ht
    rw [if_pos rfl]
    have:=hx 0 l rfl
    simp only [Nat.add_zero] at this
    rw [this];exact h l (hT l (by simp))
   ·rw [if_neg ht]
    exact cA T h L (i+1) xs (fun t ht=>hT t (List.mem_cons_of_mem _ ht)) (fun j t hj=>by have:=hx (j+1) t (by simpa using hj);rwa [show i+(j+1)=i+1+j by omega] at this) t
theorem Y2 {env:Env}: ∀(L:List Nat) (i:Nat) (xs:List Value),(∀(j:Nat) t,L[j]? =some t→nx xs (i+j)=lk env t)→ ∀t∈L,lk (inj L i xs) t=lk env t
 | [],_,_,_,t,ht=>by simp at ht
 | l::L,i,xs,hx,t,ht=>by
   simp only [inj,NA]
   by_cases hl:l=t
   ·subst hl
    rw [if_pos rfl]
    have:=hx 0 l rfl
    simpa using this
   ·rw [if_neg hl]
    have ht':t∈L:=by rcases List.mem_cons.1 ht with h | h;exact absurd h.symm hl;exact h
    exact Y2 L (i+1) xs (fun j t hj=>by have:=hx (j+1) t (by simpa using hj);rwa [show i+(j+1)=i+1+j by omega] at this) t ht'
theorem only {P:Program} {ρ:Rho} {env:Env} {a:Act} {ops:Array Oper} {o:Oper} (h: ∀t∈o.looksAt ops,VR ρ (lk env t) (a.tmps.getD t undef)):
  ∃env',VRE ρ env' a∧BC P env' o=BC P env o∧ ∀t∈o.looksAt ops,lk env' t=lk env t:=by
 have hp: ∀(j:Nat) t,(o.looksAt ops)[j]? =some t→nx (proj (o.looksAt ops) env) (0+j)=lk env t:=fun j t hj=>by simp [nx,proj,hj]
 refine ⟨inj (o.looksAt ops) 0 (proj (o.looksAt ops) env),cA (o.looksAt ops) h _ 0 _ (fun _ h=>h) hp,dQ o fun x hx=> ?_,Y2 _ 0 _ hp⟩
 cases x with
 | tmp t=>exact Y2 _ 0 _ hp t (List.mem_append_left _ (List.mem_filterMap.2 ⟨.tmp t,by simpa using hx,rfl⟩))
 | _=>rfl
def K9 (ops:Array Oper) (env:Env) (o:Oper):Prop:=o.guard=none∨ ∃j want t,o.guard=some (j,want)∧C6 ops j=some t∧lk env t= .bool want
def S1 (ops:Array Oper) (env:Env) (o:Oper):Prop:= ∃j want t,o.guard=some (j,want)∧C6 ops j=some t∧(lk env t= .bool !want∨lk env t=undef)
theorem VF {ops:Array Oper} {env:Env} {o:Oper} (h:K9 ops env o) (k:S1 ops env o):False:=by
 obtain ⟨j,want,t,h1,h2,h3⟩:=k
 rcases h with h | ⟨j',want',t',k1,k2,k3⟩
 ·rw [h] at h1;cases h1
 ·rw [k1] at h1;cases h1
  rw [k2] at h2;cases h2
  rw [k3] at h3
  rcases h3 with h3 | h3
  ·cases want <;> simp at h3
  ·simp [undef] at h3
theorem MU {ops:Array Oper} {env:Env} {o:Oper} {m:(Value→Q)→Q} {K:Value→Q} {s:St} (h:gdd ops env o m K s):(K9 ops env o∧m K s)∨(S1 ops env o∧K undef s):=by
 unfold gdd at h
 cases hg:o.guard with
 | none=>simp only [hg] at h;exact .inl ⟨.inl hg,h⟩
 | some jw=>
   obtain ⟨j,want⟩:=jw
   simp only [hg] at h
   cases hd:C6 ops j with
   | none=>simp only [hd] at h
   | some t=>
     simp only [hd] at h
     rcases h with ⟨h1,h2⟩ | ⟨h1,h2⟩
     ·exact .inl ⟨.inr ⟨j,want,t,hg,hd,h1⟩,h2⟩
     ·exact .inr ⟨⟨j,want,t,hg,hd,h1⟩,h2⟩
def iB (C:Ctx) (ops:Array Oper) (L:List Nat) (i:Nat) (env:Env) (past:List (Nat×Value)) (pend:List (Nat×St×St)) (s:St) (v:Value) (s1:St) (past':List (Nat×Value)) (pend':List (Nat×St×St)) (o:Oper):Stp→Prop
 | .rd w _=>past'=(i,w)::past∧pend'=pend∧(K9 ops env o→ ∀x∈CV L i pend,MS w x.1 x.2)
 | .al _=>past'=(i,v)::past∧pend'=pend
 | .val _=>past'=past∧pend'=pend
 | .pure _=>past'=past∧pend'=pend
 | .mu _=>past'=past∧((MM C.P L i 0 ops.toList=false∧pend'=pend)∨(pend'=(i,s,s1)::pend∧(K9 ops env o→ ∀w∈CV L i past,MS w s s1)))
 | .call _ _=>past'=past∧((MM C.P L i 0 ops.toList=false∧pend'=pend)∨(pend'=(i,s,s1)::pend∧(K9 ops env o→ ∀w∈CV L i past,MS w s s1)))
theorem jC {C:Ctx} {ops:Array Oper} {L:List Nat} {o:Oper} {r:List Oper} {i:Nat} {env:Env} {past:List (Nat×Value)} {pend:List (Nat×St×St)} {K:Env→Q} {s:St} (h:B3 C ops L i (o::r) env past pend K s):
  ∃st v s1 past' pend',BC C.P env o=some st∧((K9 ops env o∧B9 C st s v s1)∨(S1 ops env o∧v=undef∧s1=s))∧iB C ops L i env past pend s v s1 past' pend' o st∧B3 C ops L (i+1) r (FA o.dst v env) past' pend' K s1:=by
 simp only [B3] at h
 cases hop:BC C.P env o with
 | none=>rw [hop] at h;exact h.elim
 | some st=>
   rw [hop] at h
   have finM: ∀(hmu:ZF st=true),((match MM C.P L i 0 ops.toList with
     | false=>gdd ops env o (KZ C st) fun v=>B3 C ops L (i+1) r (FA o.dst v env) past pend K
     | true=>match o.guard with
       | some (j,want)=>(match C6 ops j with
         | some t=>gN (lk env t) want (mon (CV L i past) (KZ C st)) fun v a b=>B3 C ops L (i+1) r (FA o.dst v env) past ((i,a,b)::pend) K
         | none=>fun _=>False)
       | none=>mon (CV L i past) (KZ C st) fun v a b=>B3 C ops L (i+1) r (FA o.dst v env) past ((i,a,b)::pend) K:Q) s)→
     ∃v s1 past' pend',((K9 ops env o∧B9 C st s v s1)∨(S1 ops env o∧v=undef∧s1=s))∧(past'=past∧((MM C.P L i 0 ops.toList=false∧pend'=pend)∨(pend'=(i,s,s1)::pend∧(K9 ops env o→ ∀w∈CV L i past,MS w s s1))))∧B3 C ops L (i+1) r (FA o.dst v env) past' pend' K s1:=by
    intro hmu h
    cases hm:MM C.P L i 0 ops.toList with
    | false=>
      rw [hm] at h
      rcases MU h with ⟨hr,h⟩ | ⟨hs,h⟩
      ·obtain ⟨v,s1,hg,h⟩:=IP.1 h
       exact ⟨v,s1,past,pend, .inl ⟨hr,hg⟩,⟨rfl, .inl ⟨rfl,rfl⟩⟩,h⟩
      ·exact ⟨undef,s,past,pend, .inr ⟨hs,rfl,rfl⟩,⟨rfl, .inl ⟨rfl,rfl⟩⟩,h⟩
    | true=>
      rw [hm] at h
      have hrun:K9 ops env o→mon (CV L i past) (KZ C st) (fun v a b=>B3 C ops L (i+1) r (FA o.dst v env) past ((i,a,b)::pend) K) s→ ∃v s1 past' pend',((K9 ops env o∧B9 C st s v s1)∨(S1 ops env o∧v=undef∧s1=s))∧
        (past'=past∧((true=false∧pend'=pend)∨(pend'=(i,s,s1)::pend∧(K9 ops env o→ ∀w∈CV L i past,MS w s s1))))∧B3 C ops L (i+1) r (FA o.dst v env) past' pend' K s1:=by
       intro hr h
       obtain ⟨v,s1,hg,h⟩:=IP.1 h
       exact ⟨v,s1,past,_, .inl ⟨hr,hg⟩,⟨rfl, .inr ⟨rfl,fun _=>h.1⟩⟩,h.2⟩
      cases hg:o.guard with
      | none=>rw [hg] at h;exact hrun (.inl hg) h
      | some jw=>
        obtain ⟨j,want⟩:=jw
        rw [hg] at h
        cases hd:C6 ops j with
        | none=>simp only [hd] at h
        | some t=>
          simp only [hd] at h
          rcases h with ⟨h1,h2⟩ | ⟨h1,h2⟩
          ·exact hrun (.inr ⟨j,want,t,hg,hd,h1⟩) h2
          ·have hs:S1 ops env o:=⟨j,want,t,hg,hd,h1⟩
           exact ⟨undef,s,past,_, .inr ⟨hs,rfl,rfl⟩,⟨rfl, .inr ⟨rfl,fun hr=>(VF hr hs).elim⟩⟩,h2⟩
   cases st with
   | rd w g=>
     have hsam: ∀K':Value→Q,lA w (CV L i pend) g K' s→(∀x∈CV L i pend,MS w x.1 x.2)∧mm g K' s:=by
      intro K' hk
      unfold lA at hk
      cases hp:CV L i pend with
      | nil=>rw [hp] at hk;exact ⟨by simp,hk⟩
      | cons x xs=>rw [hp] at hk;exact hk
     rcases MU h with ⟨hr,h⟩ | ⟨hs,h⟩
     ·obtain ⟨h1,v,s1,hg,h2⟩:=hsam _ h
      exact ⟨_,v,s1,_,_,rfl, .inl ⟨hr,hg⟩,⟨rfl,rfl,fun _=>h1⟩,h2⟩
     ·exact ⟨_,undef,s,_,_,rfl, .inr ⟨hs,rfl,rfl⟩,⟨rfl,rfl,fun hr=>(VF hr hs).elim⟩,h⟩
   | al g=>
     rcases MU h with ⟨hr,h⟩ | ⟨hs,h⟩
     ·obtain ⟨v,s1,hg,h2⟩:=h
      exact ⟨_,v,s1,_,_,rfl, .inl ⟨hr,hg⟩,⟨rfl,rfl⟩,h2⟩
     ·exact ⟨_,undef,s,_,_,rfl, .inr ⟨hs,rfl,rfl⟩,⟨rfl,rfl⟩,h⟩
   | val v=>
     rcases MU h with ⟨hr,h⟩ | ⟨hs,h⟩
     ·exact ⟨_,v,s,_,_,rfl, .inl ⟨hr,rfl,rfl⟩,⟨rfl,rfl⟩,h⟩
     ·exact ⟨_,undef,s,_,_,rfl, .inr ⟨hs,rfl,rfl⟩,⟨rfl,rfl⟩,h⟩
   | pure x=>
     rcases MU h with ⟨hr,h⟩ | ⟨hs,h⟩
     ·obtain ⟨v,hv,h2⟩:=h
      exact ⟨_,v,s,_,_,rfl, .inl ⟨hr,hv,rfl⟩,⟨rfl,rfl⟩,h2⟩
     ·exact ⟨_,undef,s,_,_,rfl, .inr ⟨hs,rfl,rfl⟩,⟨rfl,rfl⟩,h⟩
   | mu g=>obtain ⟨v,s1,past',pend',h1,h2,h3⟩:=finM rfl h;exact ⟨_,v,s1,past',pend',rfl,h1,h2,h3⟩
   | call f as=>obtain ⟨v,s1,past',pend',h1,h2,h3⟩:=finM rfl h;exact ⟨_,v,s1,past',pend',rfl,h1,h2,h3⟩
structure At (C:Ctx) (ops:Array Oper) (env:Env) (s:St) (v:Value) (env1:Env) (s1:St) (o:Oper) (st:Stp):Prop where
 op:BC C.P env o=some st
 envq:env1=FA o.dst v env
 go:(K9 ops env o∧B9 C st s v s1)∨(S1 ops env o∧v=undef∧s1=s)
def q8 (C:Ctx) (ops:Array Oper) (env:Env) (v:Value) (o:Oper) (w:Value):Prop:=(∃g,BC C.P env o=some (.rd w g)∧K9 ops env o)∨(∃g,BC C.P env o=some (.al g)∧w=v)
theorem PF {α:Type} {L:List Nat} {i j:Nat} {x:α}: ∀{l:List (Nat×α)},(j,x)∈l→G7 L i j=true→x∈CV L i l
 | (k,y)::r,h,hu=>by
   rcases List.mem_cons.1 h with h | h
   ·cases h;simp [CV,hu]
   ·simp only [CV]
    split
    ·exact List.mem_cons_of_mem _ (PF h hu)
    ·exact PF h hu
structure Trace (C:Ctx) (ops:Array Oper) (L:List Nat) (lo:Nat) (past:List (Nat×Value)) (pend:List (Nat×St×St)) (DH:Nat→Value) (sts:Nat→St) (envs:Nat→Env):Prop where
 at_: ∀k o,lo≤k→ops[k]? =some o→ ∃st,At C ops (envs k) (sts k) (DH k) (envs (k+1)) (sts (k+1)) o st
 old: ∀k o st j w,lo≤k→ops[k]? =some o→BC C.P (envs k) o=some st→ZF st=true→K9 ops (envs k) o→MM C.P L k 0 ops.toList=true→(j,w)∈past→G7 L k j=true→MS w (sts k) (sts (k+1))
 owe: ∀k o w g j x y,lo≤k→ops[k]? =some o→BC C.P (envs k) o=some (.rd w g)→K9 ops (envs k) o→(j,x,y)∈pend→G7 L k j=true→MS w x y
 later: ∀k k' o o' st w,lo≤k'→k'<k→ops[k]? =some o→ops[k']? =some o'→BC C.P (envs k) o=some st→ZF st=true→K9 ops (envs k) o→MM C.P L k 0 ops.toList=true→q8 C ops (envs k') (DH k') o' w→G7 L k k'=true→MS w (sts k) (sts (k+1))
 sooner: ∀k k' o o' st w g,lo≤k→k<k'→ops[k]? =some o→ops[k']? =some o'→BC C.P (envs k) o=some st→ZF st=true→K9 ops (envs k) o→MM C.P L k 0 ops.toList=true→BC C.P (envs k') o'=some (.rd w g)→K9 ops (envs k') o'→G7 L k' k=true→MS w (sts k) (sts (k+1))
theorem aZ {C:Ctx} {ops:Array Oper} {L:List Nat} {K:Env→Q}: ∀(l:List Oper) (i:Nat) (env:Env) (past:List (Nat×Value)) (pend:List (Nat×St×St)) (s:St),ops.toList.drop i=l→i≤ops.size→B3 C ops L i l env past pend K s→
  ∃DH sts envs,envs i=env∧sts i=s∧K (envs ops.size) (sts ops.size)∧Trace C ops L i past pend DH sts envs
 | [],i,env,past,pend,s,hd,hi,h=>by
   have hle:ops.size≤i:=by
    have:=congrArg List.length hd
    simp at this;omega
   have he:i=ops.size:=by omega
   have hno: ∀k o,i≤k→ ¬ops[k]? =some o:=fun k o hk ho=>by
    have:=(Array.getElem?_eq_some_iff.1 ho).1;omega
   exact ⟨fun _=>undef,fun _=>s,fun _=>env,rfl,rfl,h,⟨fun k o hk ho=>(hno k o hk ho).elim,fun k o st j w hk ho=>(hno k o hk ho).elim,fun k o w g j x y hk ho=>(hno k o hk ho).elim,
    fun k k' o o' st w hk hkk ho=>(hno k o (by omega) ho).elim,fun k k' o o' st w g hk hkk ho=>(hno k o hk ho).elim⟩⟩
 | o::r,i,env,past,pend,s,hd,hi,h=>by
   have hget:ops[i]? =some o:=by
    have:(ops.toList.drop i)[0]? =some o:=by rw [hd];rfl
    simpa using this
   have hlt:i<ops.size:=(Array.getElem?_eq_some_iff.1 hget).1
   have hd':ops.toList.drop (i+1)=r:=by
    have:(ops.toList.drop i).drop 1=r:=by rw [hd];rfl
    rwa [List.drop_drop] at this
   obtain ⟨st,v,s1,past',pend',hop,hgo,haf,hrest⟩:=jC h
   obtain ⟨DH,sts,envs,he,hs,hK,T⟩:=aZ r (i+1) _ past' pend' s1 hd' hlt hrest
   have h1: ∀{α:Type} (x:α) (f:Nat→α) k,i+1≤k→(fun k=>if k=i then x else f k) k=f k:=fun x f k hk=>if_neg (by omega)
   have hp: ∀j w,(j,w)∈past→(j,w)∈past':=by
    intro j w hm
    cases st <;> simp only [iB] at haf
    ·rw [haf.1];exact hm
    ·rw [haf.1];exact hm
    ·rw [haf.1];exact List.mem_cons_of_mem _ hm
    ·rw [haf.1];exact List.mem_cons_of_mem _ hm
    ·rw [haf.1];exact hm
    ·rw [haf.1];exact hm
   have hq: ∀j x y,(j,x,y)∈pend→(j,x,y)∈pend':=by
    intro j x y hm
    cases st <;> simp only [iB] at haf
    ·rw [haf.2];exact hm
    ·rw [haf.2];exact hm
    ·rw [haf.2.1];exact hm
    ·rw [haf.2];exact hm
    ·rcases haf.2 with ⟨_,h⟩ | ⟨h,_⟩
     ·rw [h];exact hm
     ·rw [h];exact List.mem_cons_of_mem _ hm
    ·rcases haf.2 with ⟨_,h⟩ | ⟨h,_⟩
     ·rw [h];exact hm
     ·rw [h];exact List.mem_cons_of_mem _ hm
   have hw: ∀w,q8 C ops env v o w→(i,w)∈past':=by
    rintro w (⟨g,h1,h2⟩ | ⟨g,h1,h2⟩)
    ·rw [hop] at h1;cases h1;rw [haf.1];simp
    ·rw [hop] at h1;cases h1;rw [haf.1,h2];simp
   have hmu: ∀(hm:ZF st=true),MM C.P L i 0 ops.toList=true→(i,s,s1)∈pend'∧(K9 ops env o→ ∀w∈CV L i past,MS w s s1):=by
    intro hm hmt
    cases st <;> simp only [ZF] at hm <;> try cases hm
    all_goals
     simp only [iB] at haf
     rcases haf.2 with ⟨h,_⟩ | ⟨h,h'⟩
     ·rw [h] at hmt;cases hmt
     ·exact ⟨by rw [h];simp,h'⟩
   refine ⟨fun k=>if k=i then v else DH k,fun k=>if k=i then s else sts k,fun k=>if k=i then env else envs k,by simp,by simp, ?_, ?_⟩
   ·have: ¬ops.size=i:=by omega
    simp only [this,if_false];exact hK
   ·have ne: ∀{k},i+1≤k→(k=i)=False:=fun h=>by simp;omega
    have split: ∀{k},i≤k→k=i∨i+1≤k:=fun h=>by omega
    refine ⟨fun k o' hk ho=> ?_,fun k o' st' j w hk ho hop' hmu' hr hmt hm hu=> ?_,fun k o' w g j x y hk ho hop' hr hm hu=> ?_,fun k k' o1 o2 st' w hk hkk ho1 ho2 hop' hmu' hr hmt hwt hu=> ?_,fun k k' o1 o2 st' w g hk hkk ho1 ho2 hop' hmu' hr hmt hop2 hr2 hu=> ?_⟩
    ·rcases split hk with rfl | hk
     ·rw [hget] at ho;cases ho
      refine ⟨st,by simpa using hop, ?_, ?_⟩
      ·simp [he]
      ·simpa [hs] using hgo
     ·have h2:i+1≤k+1:=by omega
      obtain ⟨st',hat⟩:=T.at_ k o' hk ho
      exact ⟨st',by simpa only [ne hk,ne h2,if_false] using hat⟩
    ·rcases split hk with rfl | hk
     ·rw [hget] at ho;cases ho
      simp only [if_true] at hop' hr
      rw [hop] at hop';cases hop'
      have:=(hmu hmu' hmt).2 hr w (PF hm hu)
      simpa [hs] using this
     ·have h2:i+1≤k+1:=by omega
      simp only [ne hk,ne h2,if_false] at hop' hr ⊢
      exact T.old k o' st' j w hk ho hop' hmu' hr hmt (hp j w hm) hu
    ·rcases split hk with rfl | hk
     ·rw [hget] at ho;cases ho
      simp only [if_true] at hop' hr
      rw [hop] at hop';cases hop'
      exact haf.2.2 hr (x,y) (PF (α:=St×St) hm hu)
     ·simp only [ne hk,if_false] at hop' hr
      exact T.owe k o' w g j x y hk ho hop' hr (hq j x y hm) hu
    ·have hk1:i+1≤k:=by omega
     have h2:i+1≤k+1:=by omega
     simp only [ne hk1,ne h2,if_false] at hop' hr ⊢
     rcases split hk with rfl | hk
     ·rw [hget] at ho2;cases ho2
      simp only [if_true] at hwt
      exact T.old k o1 st' _ w hk1 ho1 hop' hmu' hr hmt (hw w hwt) hu
     ·simp only [ne hk,if_false] at hwt
      exact T.later k k' o1 o2 st' w hk hkk ho1 ho2 hop' hmu' hr hmt hwt hu
    ·have hk1:i+1≤k':=by omega
     simp only [ne hk1,if_false] at hop2 hr2
     rcases split hk with rfl | hk
     ·rw [hget] at ho1;cases ho1
      simp only [if_true] at hop' hr
      rw [hop] at hop';cases hop'
      have:=T.owe k' o2 w g k s s1 hk1 ho2 hop2 hr2 (hmu hmu' hmt).1 hu
      simpa [hs] using this
     ·have h2:i+1≤k+1:=by omega
      simp only [ne hk,ne h2,if_false] at hop' hr ⊢
      exact T.sooner k k' o1 o2 st' w g hk hkk ho1 ho2 hop' hmu' hr hmt hop2 hr2 hu
end Go.Proofs.Ytklmcfpgdfibnaa.Eng
namespace Go.Proofs.Ytklmcfpgdfibnaa.Eng
open Go Go.RowKit
set_option linter.unusedVariables false
set_option linter.unusedSimpArgs false
theorem XY {L:List Nat} {i:Nat}: ∀(l:List Edge) (s:Nat),(l.foldl (fun s e=>match Region.binds .any e with
 | true=>s||| 2^e.on||| L.getD e.on 0
 | false=>s) s).testBit i=true→s.testBit i=true∨ ∃e∈l,Region.binds .any e=true∧(e.on=i∨(L.getD e.on 0).testBit i=true)
 | [],s,h=> .inl h
 | e::l,s,h=>by
   simp only [List.foldl_cons] at h
   rcases XY l _ h with h | ⟨e',he,h1,h2⟩
   ·cases hb:Region.binds .any e with
    | false=>rw [hb] at h;exact .inl h
    | true=>
      rw [hb] at h
      simp only [Nat.testBit_or,Bool.or_eq_true] at h
      rcases h with (h | h) | h
      ·exact .inl h
      ·rw [Nat.testBit_two_pow] at h
       exact .inr ⟨e,by simp,hb, .inl (by simpa using h)⟩
      ·exact .inr ⟨e,by simp,hb, .inr h⟩
   ·exact .inr ⟨e',List.mem_cons_of_mem _ he,h1,h2⟩
structure Ord (L:List Nat) (ops:Array Oper):Prop where
 mask: ∀i o,ops[i]? =some o→ ∀k,(L.getD i 0).testBit k=true→ ∃e∈o.after,Region.binds .any e=true∧(e.on=k∨(L.getD e.on 0).testBit k=true)
 down: ∀i o,ops[i]? =some o→ ∀e∈o.after,Region.binds .any e=true→e.on<i
 pair: ∀i j x y,i<j→ops[i]? =some x→ops[j]? =some y→G7 L i j=true→Oper.apart ops x y=true∧ ¬(ON x=true∧ON y=true)
theorem W6 {L:List Nat} {ops:Array Oper} {i:Nat} {x:Oper}: ∀(l:List Oper) (j:Nat),YP L ops i x j l=true→ ∀(k:Nat) y,l[k]? =some y→ZS L ops i (j+k) x y=true
 | [],_,_,k,y,h=>by simp at h
 | z::r,j,h,k,y,hy=>by
   simp only [YP,Bool.and_eq_true] at h
   cases k with
   | zero=>simp at hy;subst hy;exact h.1
   | succ k=>have:=W6 r (j+1) h.2 k y (by simpa using hy);rwa [show j+(k+1)=j+1+k by omega]
theorem bP {L:List Nat} {ops:Array Oper}: ∀(l:List Oper) (i:Nat),ND L ops i l=true→ ∀(k:Nat) o,l[k]? =some o→
  L.getD (i+k) 0=cS L o∧(∀e∈o.after,Region.binds .any e=true→e.on<i+k)∧ ∀(j:Nat) y,k<j→l[j]? =some y→ZS L ops (i+k) (i+j) o y=true
 | [],_,_,k,o,h=>by simp at h
 | z::r,i,h,k,o,ho=>by
   simp only [ND,Bool.and_eq_true,beq_iff_eq] at h
   obtain ⟨⟨⟨h1,h2⟩,h3⟩,h4⟩:=h
   cases k with
   | zero=>
     simp at ho;subst ho
     refine ⟨h1,fun e he hb=> ?_,fun j y hj hy=> ?_⟩
     ·have:=Array.all_eq_true_iff_forall_mem.1 h2 e he
      simp only [Bool.or_eq_true,decide_eq_true_eq,hb,Bool.not_true,Bool.false_eq_true,or_false] at this
      exact this
     ·obtain ⟨j',rfl⟩: ∃j',j=j'+1:=⟨j-1,by omega⟩
      have:=W6 r (i+1) h3 j' y (by simpa using hy)
      rwa [show i+(j'+1)=i+1+j' by omega]
   | succ k=>
     obtain ⟨q1,q2,q3⟩:=bP r (i+1) h4 k o (by simpa using ho)
     rw [show i+(k+1)=i+1+k by omega]
     refine ⟨q1,q2,fun j y hj hy=> ?_⟩
     obtain ⟨j',rfl⟩: ∃j',j=j'+1:=⟨j-1,by omega⟩
     rw [show i+(j'+1)=i+1+j' by omega]
     exact q3 j' y (by omega) (by simpa using hy)
theorem sV {L:List Nat} {ops:Array Oper} (h:ND L ops 0 ops.toList=true):Ord L ops:=by
 have hl:=bP ops.toList 0 h
 refine ⟨fun i o ho k hk=> ?_,fun i o ho e he hb=> ?_,fun i j x y hij hx hy hu=> ?_⟩
 ·obtain ⟨h1,_,_⟩:=hl i o (by simpa using ho)
  rw [Nat.zero_add] at h1
  rw [h1,cS] at hk
  rcases XY o.after.toList 0 hk with h | ⟨e,he,h2⟩
  ·simp at h
  ·exact ⟨e,by simpa using he,h2⟩
 ·have:=(hl i o (by simpa using ho)).2.1 e he hb
  omega
 ·have:=(hl i x (by simpa using hx)).2.2 j y hij (by simpa using hy)
  simp only [Nat.zero_add,ZS,hu,Bool.not_true,Bool.false_or,Bool.and_eq_true,Bool.not_eq_true',Bool.and_eq_false_iff] at this
  refine ⟨this.1,fun ⟨a,b⟩=> ?_⟩
  rcases this.2 with h | h
  ·rw [a] at h;cases h
  ·rw [b] at h;cases h
theorem VN {L:List Nat} {i j:Nat}:G7 L i j=G7 L j i:=by simp [G7,Bool.and_comm]
section
variable {L:List Nat} {ops:Array Oper} {ls:Array Bool}
def On (ls:Array Bool) (i:Nat):Prop:=ls.getD i false=true
def j5 (ops:Array Oper) (ls:Array Bool):Prop:= ∀j o,On ls j→ops[j]? =some o→ ∀e∈o.after,Region.binds .any e=true→On ls e.on
theorem dG (hO:Ord L ops): ∀(j i:Nat) o,ops[j]? =some o→(L.getD j 0).testBit i=true→i<j:=by
 intro j
 induction j using Nat.strongRecOn with
 | _ j ih=>
   intro i o ho hb
   obtain ⟨e,he,h1,h2⟩:=hO.mask j o ho i hb
   have hlt:=hO.down j o ho e he h1
   rcases h2 with h2 | h2
   ·omega
   ·have hjs:=(Array.getElem?_eq_some_iff.1 ho).1
    have:=ih e.on hlt i ops[e.on] (by rw [Array.getElem?_eq_getElem (by omega)]) h2
    omega
theorem cY (hO:Ord L ops) (hs:j5 ops ls): ∀(j i:Nat) o,ops[j]? =some o→(∀e∈o.after,Region.binds .any e=true→On ls e.on)→(L.getD j 0).testBit i=true→On ls i:=by
 intro j
 induction j using Nat.strongRecOn with
 | _ j ih=>
   intro i o ho hall hb
   obtain ⟨e,he,h1,h2⟩:=hO.mask j o ho i hb
   have hon:=hall e he h1
   rcases h2 with h2 | h2
   ·rw [←h2];exact hon
   ·have hlt:=hO.down j o ho e he h1
    have hjs:=(Array.getElem?_eq_some_iff.1 ho).1
    have hge:ops[e.on]? =some ops[e.on]:=by rw [Array.getElem?_eq_getElem (by omega)]
    exact ih e.on hlt i ops[e.on] hge (fun e' he' hb'=>hs e.on _ hon hge e' he' hb') h2
theorem Q3 (hO:Ord L ops) (hs:j5 ops ls) {j:Nat} {o:Oper} (ho:ops[j]? =some o) (hall: ∀e∈o.after,Region.binds .any e=true→On ls e.on) (hj: ¬On ls j) {k:Nat} {o':Oper} (ho':ops[k]? =some o') (hk:(On ls k∧j<k)∨(¬On ls k∧k<j)):
  G7 L k j=true:=by
 unfold G7
 simp only [Bool.and_eq_true,Bool.not_eq_true']
 constructor
 ·cases hb:(L.getD k 0).testBit j with
  | false=>rfl
  | true=>
    have hlt:=dG hO k j o' ho' hb
    rcases hk with ⟨h1,h2⟩ | ⟨h1,h2⟩
    ·exact absurd (cY hO hs k j o' ho' (fun e he hbe=>hs k o' h1 ho' e he hbe) hb) hj
    ·omega
 ·cases hb:(L.getD j 0).testBit k with
  | false=>rfl
  | true=>
    have hlt:=dG hO j k o ho hb
    rcases hk with ⟨h1,h2⟩ | ⟨h1,h2⟩
    ·omega
    ·exact absurd (cY hO hs j k o ho hall hb) h1
theorem GZ {i j:Nat} (hi:i<ls.size):On (ls.setIfInBounds i true) j↔j=i∨On ls j:=by
 unfold On
 by_cases h:i=j
 ·subst h;simp [hi]
 ·have: ¬j=i:=fun hh=>h hh.symm
  simp [this,Array.getElem?_setIfInBounds_ne h]
end
def left (ls:Array Bool):Nat→Nat
 | 0=>0
 | k+1=>left ls k+(if ls.getD k true=true then 0 else 1)
theorem aE {ls:Array Bool} {j:Nat} (hj:ls.getD j true=false): ∀k,left (ls.setIfInBounds j true) k+(if j<k then 1 else 0)=left ls k
 | 0=>by simp [left]
 | k+1=>by
   have ih:=aE hj k
   have hlt:j<ls.size:=by
    rcases Nat.lt_or_ge j ls.size with h | h
    ·exact h
    ·simp [Array.getElem?_eq_none h] at hj
   simp only [left]
   by_cases hk:j=k
   ·subst hk
    have h1:(ls.setIfInBounds j true).getD j true=true:=by simp [hlt]
    simp only [Nat.lt_irrefl,if_false,Nat.add_zero] at ih
    rw [h1,hj,ih]
    simp
   ·have h1:(ls.setIfInBounds j true).getD k true=ls.getD k true:=by simp [Array.getElem?_setIfInBounds_ne hk]
    rw [h1]
    by_cases h2:j<k
    ·have h3:j<k+1:=by omega
     simp only [h2,h3,if_true] at ih ⊢
     omega
    ·have h3: ¬j<k+1:=by omega
     simp only [h2,h3,if_false] at ih ⊢
     omega
theorem X2 {ls:Array Bool}: ∀k,left ls k=0→ ∀i,i<k→ls.getD i true=true
 | 0,_,i,hi=>by omega
 | k+1,h,i,hi=>by
   simp only [left] at h
   by_cases hk:i=k
   ·subst hk
    by_cases hg:ls.getD i true=true
    ·exact hg
    ·rw [if_neg hg] at h;omega
   ·exact X2 k (by omega) i (by omega)
end Go.Proofs.Ytklmcfpgdfibnaa.Eng
namespace Go.Proofs.Ytklmcfpgdfibnaa.Eng
open Go Go.RowKit
set_option linter.unusedVariables false
set_option linter.unusedSimpArgs false
theorem iF {P:Program} {L:List Nat} {i:Nat}: ∀(l:List Oper) (k j:Nat) (o:Oper),l[j]? =some o→
  (match o.op with | .load _ _ | .alloc _ | .box _ _ | .buildSlice _ _ _ | .makeSlice _ _ _ | .convert _ _ _=>true | _=>false)=true→G7 L i (k+j)=true→i≠k+j→MM P L i k l=true
 | [],_,_,_,h,_,_,_=>by simp at h
 | z::r,k,j,o,h,hk,hu,hne=>by
   simp only [MM,Bool.or_eq_true]
   cases j with
   | zero=>
     simp at h;subst h
     rw [Nat.add_zero] at hu hne
     left
     have:(i==k)=false:=by simpa using hne
     split at hk <;> first | (rename_i h;rw [h];simp [hu,this]) | cases hk
   | succ j=>
     right
     rw [show k+(j+1)=k+1+j by omega] at hu hne
     exact iF r (k+1) j o (by simpa using h) hk hu hne
theorem pS {P:Program} {env:Env} {o:Oper} {w:Value} {g:M1} (h:BC P env o=some (.rd w g)):
  (match o.op with | .load _ _ | .alloc _ | .box _ _ | .buildSlice _ _ _ | .makeSlice _ _ _ | .convert _ _ _=>true | _=>false)=true:=by
 obtain ⟨dst,op,type,pos,after,guard⟩:=o
 cases op
 case load=>rfl
 case convert=>rfl
 case slice t x lo hi mx=>cases mx <;> simp only [BC] at h <;> (repeat' (split at h)) <;> simp [Option.map_eq_some_iff] at h
 all_goals first
  | rfl
  | (simp only [BC] at h;(repeat' (split at h)) <;> simp [Option.bind_eq_some_iff,Option.map_eq_some_iff] at h <;> (try (obtain ⟨_,_,h⟩:=h;(repeat' (split at h)) <;> simp at h)))
theorem pD {P:Program} {env:Env} {o:Oper} {g:M1} (h:BC P env o=some (.al g)):
  (match o.op with | .load _ _ | .alloc _ | .box _ _ | .buildSlice _ _ _ | .makeSlice _ _ _ | .convert _ _ _=>true | _=>false)=true:=by
 obtain ⟨dst,op,type,pos,after,guard⟩:=o
 cases op
 case slice t x lo hi mx=>cases mx <;> simp only [BC] at h <;> (repeat' (split at h)) <;> simp [Option.map_eq_some_iff] at h
 all_goals first
  | rfl
  | (simp only [BC] at h;(repeat' (split at h)) <;> simp [Option.bind_eq_some_iff,Option.map_eq_some_iff] at h <;> (try (obtain ⟨_,_,h⟩:=h;(repeat' (split at h)) <;> simp at h)))
theorem O4 {P:Program} {env:Env} {o:Oper} {st:Stp} (h:BC P env o=some st) (hm:ZF st=true):ON o=true:=by
 obtain ⟨dst,op,type,pos,after,guard⟩:=o
 cases st with
 | mu g=>
   cases op
   case store=>rfl
   case call c=>
    obtain ⟨callee,args,argTypes⟩:=c
    simp only [BC] at h
    split at h
    ·rfl
    ·(repeat' (split at h)) <;> cases h
    ·(repeat' (split at h)) <;> cases h
    ·rfl
    ·cases h
   case slice t x lo hi mx=>cases mx <;> simp only [BC] at h <;> (repeat' (split at h)) <;> simp [Option.map_eq_some_iff] at h
   all_goals (simp only [BC] at h;(repeat' (split at h)) <;> simp [Option.bind_eq_some_iff,Option.map_eq_some_iff] at h <;> (try (obtain ⟨_,_,h⟩:=h;(repeat' (split at h)) <;> simp at h)))
 | call f as=>
   cases op
   case store=>rfl
   case call c=>
    obtain ⟨callee,args,argTypes⟩:=c
    simp only [BC] at h
    split at h
    ·rfl
    ·(repeat' (split at h)) <;> cases h
    ·(repeat' (split at h)) <;> cases h
    ·rfl
    ·cases h
   case slice t x lo hi mx=>cases mx <;> simp only [BC] at h <;> (repeat' (split at h)) <;> simp [Option.map_eq_some_iff] at h
   all_goals (simp only [BC] at h;(repeat' (split at h)) <;> simp [Option.bind_eq_some_iff,Option.map_eq_some_iff] at h <;> (try (obtain ⟨_,_,h⟩:=h;(repeat' (split at h)) <;> simp at h)))
 | _=>cases hm
theorem kJ {P:Program} {env:Env} {o:Oper} {g:M1} {s s':St} {v:Value} (h:BC P env o=some (.al g)) (hg:g s=some (v,s')): ∃cells,s'=s.push ⟨cells,true⟩∧handle v=some s.n:=by
 obtain ⟨dst,op,type,pos,after,guard⟩:=o
 cases op
 case alloc t=>
  simp only [BC,Option.map_eq_some_iff,Stp.al.injEq] at h
  obtain ⟨z,hz,rfl⟩:=h
  simp only [al] at hg
  cases hg;exact ⟨_,rfl,rfl⟩
 case box t x=>
  simp only [BC,Option.some.injEq,Stp.al.injEq] at h
  subst h
  simp only [bx] at hg
  split at hg <;> cases hg;exact ⟨_,rfl,rfl⟩
 case buildSlice t len parts=>
  simp only [BC] at h
  split at h
  ·simp only [Option.bind_eq_some_iff] at h
   obtain ⟨z,hz,h⟩:=h
   split at h
   ·simp only [Option.some.injEq,Stp.al.injEq] at h
    subst h
    simp only [bs,Option.map_eq_some_iff] at hg
    obtain ⟨cs,_,hg⟩:=hg
    cases hg;exact ⟨_,rfl,rfl⟩
   ·cases h
  ·cases h
 case makeSlice t x y=>
  simp only [BC] at h
  split at h
  ·simp only [Option.bind_eq_some_iff] at h
   obtain ⟨z,hz,h⟩:=h
   split at h
   ·simp only [Option.some.injEq,Stp.al.injEq] at h
    subst h
    simp only [mk] at hg
    split at hg
    ·split at hg <;> cases hg;exact ⟨_,rfl,rfl⟩
    ·cases hg
   ·cases h
  ·cases h
 case slice t x lo hi mx=>cases mx <;> simp only [BC] at h <;> (repeat' (split at h)) <;> simp [Option.map_eq_some_iff] at h
 all_goals (simp only [BC] at h;(repeat' (split at h)) <;> simp [Option.bind_eq_some_iff,Option.map_eq_some_iff] at h <;> (try (obtain ⟨_,_,h⟩:=h;(repeat' (split at h)) <;> simp at h)))
section
variable {C:Ctx} {B:Start} {ops:Array Oper} {L:List Nat} {DH:Nat→Value} {sts:Nat→St} {envs:Nat→Env}
abbrev Tr (C:Ctx) (ops:Array Oper) (L:List Nat) (DH:Nat→Value) (sts:Nat→St) (envs:Nat→Env):Prop:=Trace C ops L 0 [] [] DH sts envs
def IsM (C:Ctx) (ops:Array Oper) (envs:Nat→Env) (k:Nat):Prop:= ∃o st,ops[k]? =some o∧BC C.P (envs k) o=some st∧ZF st=true∧K9 ops (envs k) o
theorem Trace.mono (T:Tr C ops L DH sts envs): ∀(b a:Nat),a≤b→b≤ops.size→(sts a).n≤(sts b).n
 | 0,a,h,_=>by have:a=0:=by omega
               subst this;exact Nat.le_refl _
 | b+1,a,h,hb=>by
   by_cases he:a=b+1
   ·subst he;exact Nat.le_refl _
   ·refine Nat.le_trans (T.mono b a (by omega) (by omega)) ?_
    obtain ⟨st,hat⟩:=T.at_ b ops[b] (Nat.zero_le _) (by rw [Array.getElem?_eq_getElem (by omega)])
    rcases hat.go with ⟨_,hg⟩ | ⟨_,_,hs⟩
    ·exact l5 hat.op hg
    ·rw [hs];exact Nat.le_refl _
theorem Trace.same (T:Tr C ops L DH sts envs) {k h:Nat} (hk:k<ops.size) (hm: ¬IsM C ops envs k) (hh:h<(sts k).n):(sts (k+1)).get h=(sts k).get h:=by
 have hget:ops[k]? =some ops[k]:=by rw [Array.getElem?_eq_getElem hk]
 obtain ⟨st,hat⟩:=T.at_ k ops[k] (Nat.zero_le _) hget
 rcases hat.go with ⟨hr,hg⟩ | ⟨_,_,hs⟩
 ·cases st with
  | val x=>obtain ⟨_,hs⟩:=hg;rw [hs]
  | pure x=>obtain ⟨_,hs⟩:=hg;rw [hs]
  | rd w g=>
    have hE:VRE (fun _=>none) [] ⟨#[],[]⟩:=fun t=>trivial
    have:sts (k+1)=sts k:=by
     have h2:=hat.op
     generalize ops[k]=o at h2
     obtain ⟨dst,op,type,pos,after,guard⟩:=o
     cases op
     case load t x=>
      simp only [BC,Option.bind_eq_some_iff,Option.map_eq_some_iff,Stp.rd.injEq] at h2
      obtain ⟨sz,hs,ag,ha,rfl,rfl⟩:=h2
      exact Y1 hg
     case convert src dst' x=>
      simp only [BC] at h2
      split at h2
      ·cases h2
      ·split at h2
       ·simp only [Option.some.injEq,Stp.rd.injEq] at h2
        obtain ⟨rfl,rfl⟩:=h2
        simp only [B9,b2s,Option.bind_eq_some_iff] at hg
        obtain ⟨cs,_,hg⟩:=hg
        obtain ⟨_,hg⟩:=Option.ite_none_right_eq_some.1 hg
        exact (Prod.mk.inj (Option.some.inj hg)).2.symm
       ·cases h2
      ·cases h2
     case slice t x lo hi mx=>cases mx <;> simp only [BC] at h2 <;> (repeat' (split at h2)) <;> simp [Option.map_eq_some_iff] at h2
     all_goals (simp only [BC] at h2;(repeat' (split at h2)) <;> simp [Option.bind_eq_some_iff,Option.map_eq_some_iff] at h2 <;> (try (obtain ⟨_,_,h2⟩:=h2;(repeat' (split at h2)) <;> simp at h2)))
    rw [this]
  | al g=>
    obtain ⟨cells,hs,_⟩:=kJ hat.op hg
    rw [hs,St.II,if_neg (by omega)]
  | mu g=>exact absurd ⟨_,_,hget,hat.op,rfl,hr⟩ hm
  | call f as=>exact absurd ⟨_,_,hget,hat.op,rfl,hr⟩ hm
 ·rw [hs]
theorem Trace.chain (T:Tr C ops L DH sts envs) {h:Nat}: ∀(b a:Nat),a≤b→b≤ops.size→h<(sts a).n→(∀k,a≤k→k<b→IsM C ops envs k→(sts (k+1)).get h=(sts k).get h)→(sts b).get h=(sts a).get h
 | 0,a,hab,_,_,_=>by have:a=0:=by omega
                     subst this;rfl
 | b+1,a,hab,hb,hh,hk=>by
   by_cases he:a=b+1
   ·subst he;rfl
   ·have ih:=T.chain b a (by omega) (by omega) hh (fun k h1 h2 h3=>hk k h1 (by omega) h3)
    rw [←ih]
    have hlt:h<(sts b).n:=Nat.lt_of_lt_of_le hh (T.mono b a (by omega) (by omega))
    by_cases hm:IsM C ops envs b
    ·exact hk b (by omega) (by omega) hm
    ·exact T.same (by omega) hm hlt
theorem iH (T:Tr C ops L DH sts envs) (t:Nat): ∀(j:Nat),j≤ops.size→(∃i,i<j∧C6 ops i=some t∧(∀k,k<j→C6 ops k=some t→k≤i)∧lk (envs j) t=DH i)∨((∀k,k<j→C6 ops k≠some t)∧lk (envs j) t=lk (envs 0) t)
 | 0,_=> .inr ⟨fun k hk=>by omega,rfl⟩
 | j+1,hj=>by
   have hget:ops[j]? =some ops[j]:=by rw [Array.getElem?_eq_getElem (by omega)]
   obtain ⟨st,hat⟩:=T.at_ j ops[j] (Nat.zero_le _) hget
   have hd:C6 ops j=ops[j].dst:=by simp [C6,hget]
   rw [hat.envq]
   by_cases ht:C6 ops j=some t
   ·refine .inl ⟨j,by omega,ht,fun k hk _=>by omega, ?_⟩
    rw [←hd,ht];simp [FA,NA]
   ·have hlk:lk (FA ops[j].dst (DH j) (envs j)) t=lk (envs j) t:=by
     rw [←hd]
     cases hdd:C6 ops j with
     | none=>rfl
     | some d=>simp only [FA,NA];rw [if_neg (fun hh=>ht (by rw [hdd,hh]))]
    rw [hlk]
    rcases iH T t j (by omega) with ⟨i,h1,h2,h3,h4⟩ | ⟨h1,h2⟩
    ·exact .inl ⟨i,by omega,h2,fun k hk hkd=>by
      by_cases hkj:k=j
      ·subst hkj;exact absurd hkd ht
      ·exact h3 k (by omega) hkd,h4⟩
    ·exact .inr ⟨fun k hk=>by
      by_cases hkj:k=j
      ·subst hkj;exact ht
      ·exact h1 k (by omega),h2⟩
def Idx (ops:Array Oper) (sts:Nat→St) (e h i:Nat):Prop:=e≤i∧i≤ops.size∧h<(sts i).n∧(i=e∨(sts (i-1)).n≤h)
structure Mid (C:Ctx) (B:Start) (ops:Array Oper) (DH:Nat→Value) (sts:Nat→St) (envs:Nat→Env) (ρ1:Rho) (W1:World) (ls:Array Bool) (e:Nat) (ρ:Rho) (W:World) (a:Act):Prop where
 lsz:ls.size=ops.size
 shut:j5 ops ls
 size:a.tmps.size=B.nt
 defers:a.defers=[]
 env: ∀t,(∃i,On ls i∧C6 ops i=some t∧(∀k,On ls k→C6 ops k=some t→k≤i)∧VR ρ (DH i) (a.tmps.getD t undef))∨((∀k,On ls k→C6 ops k≠some t)∧VR ρ (lk (envs 0) t) (a.tmps.getD t undef))
 dom: ∀h p,ρ h=some p→ρ1 h=some p∨ ∃j,On ls j∧(sts j).n≤h∧h<(sts (j+1)).n
 sub:Sub ρ1 ρ
 out: ∀h,(h<(sts 0).n∨(sts ops.size).n≤h)→ρ h=ρ1 h
 last:(e=0∨ ∃m,e=m+1∧On ls m∧IsM C ops envs m)∧ ∀m,On ls m→IsM C ops envs m→m<e
 con: ∀h p i ob,ρ h=some p→Idx ops sts e h i→(sts i).get h=some ob→Con C.w0.heap.size ρ W p ob
 inj: ∀h h' p p' i i' ob ob',ρ h=some p→ρ h'=some p'→Idx ops sts e h i→Idx ops sts e h' i'→(sts i).get h=some ob→(sts i').get h'=some ob'→p.own=true→p'.own=true→p.b=p'.b→h=h'
 bel:Below C.w0.heap.size C.w0 W
 wsz:W1.heap.size≤W.heap.size
 frame: ∀k,k<W1.heap.size→ ¬SP ρ1 (sts 0) k→W.heap[k]? =W1.heap[k]?
 own: ∀k,k<W1.heap.size→(∃h p i ob,ρ h=some p∧Idx ops sts e h i∧(sts i).get h=some ob∧p.own=true∧p.b=k)→SP ρ1 (sts 0) k
variable {ρ1 ρ:Rho} {W1 W:World} {ls:Array Bool} {e:Nat} {a:Act}
theorem Mid.xE (M:Mid C B ops DH sts envs ρ1 W1 ls e ρ W a):e≤ops.size:=by
 rcases M.last.1 with h | ⟨m,h,_,o,st,ho,_⟩
 ·omega
 ·have:=(Array.getElem?_eq_some_iff.1 ho).1;omega
theorem lE {h e:Nat} (he: ¬h<(sts e).n): ∀j,e≤j→h<(sts j).n→ ∃i,e<i∧i≤j∧h<(sts i).n∧(sts (i-1)).n≤h
 | 0,hj,hh=>by have:e=0:=by omega
               subst this;exact absurd hh he
 | j+1,hj,hh=>by
   by_cases h1:e=j+1
   ·subst h1;exact absurd hh he
   ·by_cases h2:h<(sts j).n
    ·obtain ⟨i,g1,g2,g3,g4⟩:=lE he j (by omega) h2
     exact ⟨i,g1,by omega,g3,g4⟩
    ·exact ⟨j+1,by omega,Nat.le_refl _,hh,by simpa using h2⟩
theorem Mid.idx (T:Tr C ops L DH sts envs) (M:Mid C B ops DH sts envs ρ1 W1 ls e ρ W a) {j h:Nat} (hj:j≤ops.size) (hh:h<(sts j).n): ∃i,Idx ops sts e h i∧((i=e∧h<(sts e).n)∨(e<i∧i≤j)):=by
 have hel:=M.xE
 by_cases he:h<(sts e).n
 ·exact ⟨e,⟨Nat.le_refl _,hel,he, .inl rfl⟩, .inl ⟨rfl,he⟩⟩
 ·have hej:e≤j:=by
   rcases Nat.le_total e j with h1 | h1
   ·exact h1
   ·exact absurd (Nat.lt_of_lt_of_le hh (T.mono e j h1 hel)) he
  obtain ⟨i,g1,g2,g3,g4⟩:=lE he j hej hh
  exact ⟨i,⟨by omega,by omega,g3, .inr g4⟩, .inr ⟨g1,g2⟩⟩
structure Nxt (ops:Array Oper) (ls:Array Bool) (j:Nat) (o:Oper):Prop where
 get:ops[j]? =some o
 off:ls.getD j true=false
 all: ∀e∈o.after,Region.binds .any e=true→On ls e.on
theorem Nxt.not {j:Nat} {o:Oper} (h:Nxt ops ls j o): ¬On ls j:=by
 have:=h.off
 unfold On
 intro hh
 rcases Nat.lt_or_ge j ls.size with h' | h'
 ·simp [h'] at this hh;rw [this] at hh;cases hh
 ·simp [Array.getElem?_eq_none h'] at this
theorem Nxt.lt {j:Nat} {o:Oper} (h:Nxt ops ls j o):j<ops.size:=(Array.getElem?_eq_some_iff.1 h.get).1
theorem Nxt.order (hO:Ord L ops) (hs:j5 ops ls) {j:Nat} {o:Oper} (h:Nxt ops ls j o) {k:Nat} {o':Oper} (ho':ops[k]? =some o') (hne:k≠j) (hu:G7 L k j=false):On ls k↔k<j:=by
 constructor
 ·intro hk
  rcases Nat.lt_or_ge k j with h1 | h1
  ·exact h1
  ·have:=Q3 hO hs h.get h.all h.not ho' (.inl ⟨hk,by omega⟩)
   rw [hu] at this;cases this
 ·intro hk
  by_cases hon:On ls k
  ·exact hon
  ·have:=Q3 hO hs h.get h.all h.not ho' (.inr ⟨hon,hk⟩)
   rw [hu] at this;cases this
theorem gU {k t:Nat} (h:C6 ops k=some t): ∃o,ops[k]? =some o∧o.dst=some t:=by
 unfold C6 at h
 cases ho:ops[k]? with
 | none=>rw [ho] at h;cases h
 | some o=>rw [ho] at h;exact ⟨o,rfl,h⟩
theorem Nxt.fF (hO:Ord L ops) (hs:j5 ops ls) {j:Nat} {o:Oper} (h:Nxt ops ls j o) {t:Nat} (ht:t∈o.looksAt ops∨o.dst=some t) {k:Nat} (hk:C6 ops k=some t):On ls k↔k<j:=by
 by_cases hkj:k=j
 ·subst hkj;exact ⟨fun hh=>absurd hh h.not,fun hh=>by omega⟩
 ·obtain ⟨o',ho',hd'⟩:=gU hk
  refine h.order hO hs ho' hkj ?_
  cases hu:G7 L k j with
  | false=>rfl
  | true=>
    rcases Nat.lt_or_gt_of_ne hkj with h1 | h1
    ·obtain ⟨q1,q2,q3⟩:=Oper.apart_spec (hO.pair k j o' o h1 ho' h.get hu).1
     rcases ht with ht | ht
     ·exact absurd ht (q1 t hd')
     ·exact absurd ht (q2 t hd')
    ·obtain ⟨q1,q2,q3⟩:=Oper.apart_spec (hO.pair j k o o' h1 h.get ho' (by rw [VN];exact hu)).1
     rcases ht with ht | ht
     ·exact absurd ht (q3 t hd')
     ·exact absurd hd' (q2 t ht)
theorem Mid.gB (T:Tr C ops L DH sts envs) (M:Mid C B ops DH sts envs ρ1 W1 ls e ρ W a) {j t:Nat} (hj:j≤ops.size) (hw: ∀k,C6 ops k=some t→(On ls k↔k<j)):VR ρ (lk (envs j) t) (a.tmps.getD t undef):=by
 rcases iH T t j hj with ⟨i,h1,h2,h3,h4⟩ | ⟨h1,h2⟩
 ·rw [h4]
  rcases M.env t with ⟨i',g1,g2,g3,g4⟩ | ⟨g1,_⟩
  ·have e1:i≤i':=g3 i ((hw i h2).2 h1) h2
   have e2:i'≤i:=h3 i' ((hw i' g2).1 g1) g2
   have:i=i':=by omega
   subst this;exact g4
  ·exact absurd h2 (g1 i ((hw i h2).2 h1))
 ·rw [h2]
  rcases M.env t with ⟨i',g1,g2,_,_⟩ | ⟨_,g2⟩
  ·exact absurd g2 (h1 i' ((hw i' g2).1 g1))
  ·exact g2
theorem Mid.YU (hO:Ord L ops) (M:Mid C B ops DH sts envs ρ1 W1 ls e ρ W a) {j:Nat} {o:Oper} (h:Nxt ops ls j o) (hd: ∀t,o.dst=some t→t<B.nt) {ρ':Rho} {u:Value} (hs:Sub ρ ρ') (hv:VR ρ' (DH j) u) (t:Nat):
  (∃i,On (ls.setIfInBounds j true) i∧C6 ops i=some t∧(∀k,On (ls.setIfInBounds j true) k→C6 ops k=some t→k≤i)∧VR ρ' (DH i) ((a.put o.dst u).tmps.getD t undef))∨
   ((∀k,On (ls.setIfInBounds j true) k→C6 ops k≠some t)∧VR ρ' (lk (envs 0) t) ((a.put o.dst u).tmps.getD t undef)):=by
 have hjl:j<ls.size:=by rw [M.lsz];exact h.lt
 have hdj:C6 ops j=o.dst:=by simp [C6,h.get]
 by_cases ht:o.dst=some t
 ·refine .inl ⟨j,(GZ hjl).2 (.inl rfl),by rw [hdj];exact ht,fun k hk hkd=> ?_, ?_⟩
  ·rcases (GZ hjl).1 hk with rfl | hk
   ·exact Nat.le_refl _
   ·exact Nat.le_of_lt ((h.fF hO M.shut (.inr ht) hkd).1 hk)
  ·have hlt:t<a.tmps.size:=by rw [M.size];exact hd t ht
   rw [ht]
   simpa [Act.put,hlt] using hv
 ·have hsame:(a.put o.dst u).tmps.getD t undef=a.tmps.getD t undef:=by
   cases hdd:o.dst with
   | none=>rfl
   | some d=>
     have:d≠t:=fun hh=>ht (by rw [hdd,hh])
     simp [Act.put,Array.getElem?_setIfInBounds_ne this]
  rw [hsame]
  rcases M.env t with ⟨i,g1,g2,g3,g4⟩ | ⟨g1,g2⟩
  ·refine .inl ⟨i,(GZ hjl).2 (.inr g1),g2,fun k hk hkd=> ?_,YZ hs g4⟩
   rcases (GZ hjl).1 hk with rfl | hk
   ·rw [hdj] at hkd;exact absurd hkd ht
   ·exact g3 k hk hkd
  ·refine .inr ⟨fun k hk=> ?_,YZ hs g2⟩
   rcases (GZ hjl).1 hk with rfl | hk
   ·rw [hdj];exact ht
   ·exact g1 k hk
theorem Mid.VD (M:Mid C B ops DH sts envs ρ1 W1 ls e ρ W a) {j:Nat} {o:Oper} (h:Nxt ops ls j o):j5 ops (ls.setIfInBounds j true):=by
 have hjl:j<ls.size:=by rw [M.lsz];exact h.lt
 intro k o' hk ho' ed he hb
 refine (GZ hjl).2 (.inr ?_)
 rcases (GZ hjl).1 hk with rfl | hk
 ·rw [h.get] at ho';cases ho';exact h.all ed he hb
 ·exact M.shut k o' hk ho' ed he hb
theorem Mid.fM (hO:Ord L ops) (M:Mid C B ops DH sts envs ρ1 W1 ls e ρ W a) {j:Nat} {o:Oper} (h:Nxt ops ls j o) (hd: ∀t,o.dst=some t→t<B.nt) {u:Value} (hv:VR ρ (DH j) u) (hm: ¬IsM C ops envs j):
  Mid C B ops DH sts envs ρ1 W1 (ls.setIfInBounds j true) e ρ W (a.put o.dst u):=by
 have hjl:j<ls.size:=by rw [M.lsz];exact h.lt
 refine ⟨by simp [M.lsz],M.VD h,by rw [RT,M.size],by rw [LL,M.defers],M.YU hO h hd (Sub.refl _) hv,fun x p hx=> ?_,M.sub,M.out,⟨?_,fun m hon hmm=> ?_⟩,M.con,M.inj,M.bel,M.wsz,M.frame,M.own⟩
 ·rcases M.dom x p hx with h1 | ⟨k,h1,h2⟩
  ·exact .inl h1
  ·exact .inr ⟨k,(GZ hjl).2 (.inr h1),h2⟩
 ·rcases M.last.1 with h1 | ⟨m,h1,h2,h3⟩
  ·exact .inl h1
  ·exact .inr ⟨m,h1,(GZ hjl).2 (.inr h2),h3⟩
 ·rcases (GZ hjl).1 hon with rfl | hon
  ·exact absurd hmm hm
  ·exact M.last.2 m hon hmm
end
end Go.Proofs.Ytklmcfpgdfibnaa.Eng
namespace Go.Proofs.Ytklmcfpgdfibnaa.Eng
open Go Go.RowKit
set_option linter.unusedVariables false
set_option linter.unusedSimpArgs false
section
variable {C:Ctx} {B:Start} {ops:Array Oper} {L:List Nat} {DH:Nat→Value} {sts:Nat→St} {envs:Nat→Env} {ρ1 ρ:Rho} {W1 W:World} {ls:Array Bool} {e:Nat} {a:Act}
theorem Trace.spare (T:Tr C ops L DH sts envs) {k j:Nat} {o:Oper} {w:Value} (hj:ops[j]? =some o) (hk:IsM C ops envs k) (hu:G7 L k j=true) (hne:k≠j)
  (hw:(∃g,BC C.P (envs j) o=some (.rd w g)∧K9 ops (envs j) o)∨(j<k∧ ∃g,BC C.P (envs j) o=some (.al g)∧w=DH j)):MS w (sts k) (sts (k+1)):=by
 obtain ⟨o',st,ho',hop,hmu,hr⟩:=hk
 have hkind:(match o.op with | .load _ _ | .alloc _ | .box _ _ | .buildSlice _ _ _ | .makeSlice _ _ _ | .convert _ _ _=>true | _=>false)=true:=by
  rcases hw with ⟨g,h,_⟩ | ⟨_,g,h,_⟩
  ·exact pS h
  ·exact pD h
 have hmt:MM C.P L k 0 ops.toList=true:=iF ops.toList 0 j o (by simpa using hj) hkind (by simpa using hu) (by simpa using hne)
 rcases Nat.lt_or_gt_of_ne hne with h1 | h1
 ·rcases hw with ⟨g,h,hr2⟩ | ⟨h2,_⟩
  ·exact T.sooner k j o' o st w g (Nat.zero_le _) h1 ho' hj hop hmu hr hmt h hr2 (by rw [VN];exact hu)
  ·omega
 ·refine T.later k j o' o st w (Nat.zero_le _) h1 ho' hj hop hmu hr hmt ?_ hu
  rcases hw with ⟨g,h,hr2⟩ | ⟨_,g,h,hv⟩
  ·exact .inl ⟨g,h,hr2⟩
  ·exact .inr ⟨g,h,hv⟩
theorem Mid.YJ (hO:Ord L ops) (M:Mid C B ops DH sts envs ρ1 W1 ls e ρ W a) {k:Nat} (hk:IsM C ops envs k):On ls k↔k<e:=by
 constructor
 ·exact fun h=>M.last.2 k h hk
 ·intro hlt
  rcases M.last.1 with h | ⟨m,h,hon,hm⟩
  ·omega
  ·by_cases hkm:k=m
   ·subst hkm;exact hon
   ·obtain ⟨o1,st1,ho1,hop1,hmu1,_⟩:=hk
    obtain ⟨o2,st2,ho2,hop2,hmu2,_⟩:=hm
    cases hu:G7 L k m with
    | true=>exact absurd ⟨O4 hop1 hmu1,O4 hop2 hmu2⟩ (hO.pair k m o1 o2 (by omega) ho1 ho2 hu).2
    | false=>
      unfold G7 at hu
      simp only [Bool.and_eq_false_iff,Bool.not_eq_false'] at hu
      rcases hu with hu | hu
      ·have:=dG hO k m o1 ho1 hu;omega
      ·exact cY hO M.shut m k o2 ho2 (fun ed he hb=>M.shut m o2 hon ho2 ed he hb) hu
theorem Mid.vA (hO:Ord L ops) (T:Tr C ops L DH sts envs) (M:Mid C B ops DH sts envs ρ1 W1 ls e ρ W a) {j:Nat} {o:Oper} {w:Value} {g:M1} (h:Nxt ops ls j o) (hop:BC C.P (envs j) o=some (.rd w g)) (hr:K9 ops (envs j) o)
  {x:Nat} {p:Pl} {ob:Ob} (hx:handle w=some x) (hp:ρ x=some p) (hob:(sts j).get x=some ob):Con C.w0.heap.size ρ W p ob:=by
 have hlt:=St.FK hob
 have hjs:=h.lt
 have hnm: ¬IsM C ops envs j:=fun ⟨o2,st2,ho2,hop2,hmu2,_⟩=>by
  rw [h.get] at ho2;cases ho2;rw [hop] at hop2;cases hop2;cases hmu2
 have spare: ∀k,IsM C ops envs k→((On ls k∧j<k)∨(¬On ls k∧k<j))→(sts (k+1)).get x=(sts k).get x:=by
  intro k hk hc
  obtain ⟨o2,st2,ho2,hop2,hmu2,hr2⟩:=id hk
  have hu:=Q3 hO M.shut h.get h.all h.not ho2 hc
  exact T.spare h.get hk hu (by rcases hc with h | h <;> omega) (.inl ⟨g,hop,hr⟩) x hx
 obtain ⟨i,hi,hcase⟩:=M.idx T (Nat.le_of_lt hjs) hlt
 have heq:(sts i).get x=(sts j).get x:=by
  rcases hcase with ⟨rfl,hlt2⟩ | ⟨h1,h2⟩
  ·rcases Nat.le_total i j with h3 | h3
   ·refine (T.chain j i h3 (Nat.le_of_lt hjs) hlt2 fun k h4 h5 hk=>spare k hk (.inr ⟨fun hon=> ?_,h5⟩)).symm
    have:=M.last.2 k hon hk;omega
   ·refine T.chain i j h3 hi.2.1 hlt fun k h4 h5 hk=>spare k hk (.inl ⟨(M.YJ hO hk).2 h5, ?_⟩)
    rcases Nat.lt_or_ge j k with h6 | h6
    ·exact h6
    ·have:k=j:=by omega
     subst this;exact absurd hk hnm
  ·refine (T.chain j i h2 (Nat.le_of_lt hjs) hi.2.2.1 fun k h4 h5 hk=>spare k hk (.inr ⟨fun hon=> ?_,h5⟩)).symm
   have:=M.last.2 k hon hk;omega
 exact M.con x p i ob hp hi (by rw [heq];exact hob)
theorem Mid.tZ (hO:Ord L ops) (T:Tr C ops L DH sts envs) (M:Mid C B ops DH sts envs ρ1 W1 ls e ρ W a) {j:Nat} {o:Oper} {g:M1} (h:Nxt ops ls j o) (hd: ∀t,o.dst=some t→t<B.nt) (hop:BC C.P (envs j) o=some (.al g))
  {cells:List Value} {cs:Array Value} {ty:TypeId} {u:Value} (hs:sts (j+1)=(sts j).push ⟨cells,true⟩) (hv:handle (DH j)=some (sts j).n) (hc:EF (CR ρ) cells cs.toList) (hvr:VR (upd ρ (sts j).n ⟨W.heap.size,0,cs.size,true⟩) (DH j) u) (hf1:ρ1 (sts j).n=none):
  Mid C B ops DH sts envs ρ1 W1 (ls.setIfInBounds j true) e (upd ρ (sts j).n ⟨W.heap.size,0,cs.size,true⟩) (W.alloc (.cells cs ty)) (a.put o.dst u):=by
 have hjl:j<ls.size:=by rw [M.lsz];exact h.lt
 have hjs:=h.lt
 have hnm: ¬IsM C ops envs j:=fun ⟨o2,st2,ho2,hop2,hmu2,_⟩=>by
  rw [h.get] at ho2;cases ho2;rw [hop] at hop2;cases hop2;cases hmu2
 have hn1:(sts (j+1)).n=(sts j).n+1:=by rw [hs];rfl
 have hfree:ρ (sts j).n=none:=by
  cases hp:ρ (sts j).n with
  | none=>rfl
  | some p=>
    rcases M.dom _ p hp with h1 | ⟨k,h1,h2,h3⟩
    ·rw [hf1] at h1;cases h1
    ·have hks:k<ops.size:=by
      have:k<ls.size:=by
       unfold On at h1
       rcases Nat.lt_or_ge k ls.size with h' | h'
       ·exact h'
       ·simp [Array.getElem?_eq_none h'] at h1
      rw [←M.lsz];exact this
     rcases Nat.lt_trichotomy k j with h4 | h4 | h4
     ·have:=T.mono j (k+1) h4 (Nat.le_of_lt hjs);omega
     ·subst h4;exact absurd h1 h.not
     ·have:=T.mono k (j+1) h4 (Nat.le_of_lt hks);omega
 have hsub:=T7 hfree ⟨W.heap.size,0,cs.size,true⟩
 have hold: ∀k,k<W.heap.size→(W.alloc (.cells cs ty)).heap[k]? =W.heap[k]? :=fun k hk=>Below.heap_alloc _ _ _ hk
 have hnew:(W.alloc (.cells cs ty)).heap[W.heap.size]? =some (.cells cs ty (0,0)):=heap_alloc_new W _
 have hne: ∀{x p},ρ x=some p→x≠(sts j).n:=fun hx hh=>by subst hh;rw [hfree] at hx;cases hx
 have hblk: ∀x p i ob,ρ x=some p→Idx ops sts e x i→(sts i).get x=some ob→p.own=true→p.b<W.heap.size:=fun x p i ob h1 h2 h3 h4=>by
  obtain ⟨_,cs',e',h5,_⟩:=(M.con x p i ob h1 h2 h3).2.2.1 h4
  exact (Array.getElem?_eq_some_iff.1 h5).1
 have hat: ∀i ob,Idx ops sts e (sts j).n i→(sts i).get (sts j).n=some ob→ob=⟨cells,true⟩:=by
  intro i ob hi hob
  have hbase:(sts (j+1)).get (sts j).n=some ⟨cells,true⟩:=by rw [hs,St.II,if_pos rfl]
  have hge:j+1≤i:=by
   rcases Nat.lt_or_ge j i with h1 | h1
   ·exact h1
   ·have:=T.mono j i h1 (Nat.le_of_lt hjs)
    have:=hi.2.2.1;omega
  have heq:(sts i).get (sts j).n=(sts (j+1)).get (sts j).n:=by
   by_cases h1:i=j+1
   ·rw [h1]
   ·have hie:i=e:=by
     rcases hi.2.2.2 with h2 | h2
     ·exact h2
     ·have hi2:=hi.2.1
      have:=T.mono (i-1) (j+1) (by omega) (by omega)
      omega
    refine T.chain i (j+1) hge hi.2.1 (by omega) fun k h4 h5 hk=> ?_
    obtain ⟨o2,st2,ho2,hop2,hmu2,hr2⟩:=id hk
    have hon:=(M.YJ hO hk).2 (by omega)
    have hu:=Q3 hO M.shut h.get h.all h.not ho2 (.inl ⟨hon,by omega⟩)
    exact T.spare h.get hk hu (by omega) (.inr ⟨by omega,g,hop,rfl⟩) _ hv
  rw [heq,hbase] at hob
  exact (Option.some.inj hob).symm
 refine ⟨by simp [M.lsz],M.VD h,by rw [RT,M.size],by rw [LL,M.defers],M.YU hO h hd hsub hvr,fun x p hx=> ?_,M.sub.trans hsub,fun x hx=> ?_,⟨?_,fun m hon hmm=> ?_⟩,fun x p i ob hx hi hob=> ?_,
  fun x x' p p' i i' ob ob' hx hx' hi hi' ho ho' hp hp' hb=> ?_,M.bel.alloc M.bel.size _,by rw [show (W.alloc (.cells cs ty)).heap=W.heap.push (.cells cs ty) from rfl,Array.size_push];have:=M.wsz;omega,fun k hk hn=> ?_,fun k hk ⟨x,p,i,ob,hx,hi,ho,hp,hb⟩=> ?_⟩
 ·by_cases hh:x=(sts j).n
  ·subst hh
   exact .inr ⟨j,(GZ hjl).2 (.inl rfl),Nat.le_refl _,by omega⟩
  ·rw [ET _ _ hh] at hx
   rcases M.dom x p hx with h1 | ⟨k,h1,h2⟩
   ·exact .inl h1
   ·exact .inr ⟨k,(GZ hjl).2 (.inr h1),h2⟩
 ·have hne:x≠(sts j).n:=by
   have h1:=T.mono j 0 (Nat.zero_le _) (Nat.le_of_lt hjs)
   have h2:=T.mono ops.size (j+1) hjs (Nat.le_refl _)
   omega
  rw [ET _ _ hne];exact M.out x hx
 ·rcases M.last.1 with h1 | ⟨m,h1,h2,h3⟩
  ·exact .inl h1
  ·exact .inr ⟨m,h1,(GZ hjl).2 (.inr h2),h3⟩
 ·rcases (GZ hjl).1 hon with rfl | hon
  ·exact absurd hmm hnm
  ·exact M.last.2 m hon hmm
 ·by_cases hh:x=(sts j).n
  ·subst hh
   rw [DE] at hx;cases hx
   have:=hat i ob hi hob
   subst this
   refine ⟨rfl,fun k y hy=> ?_,fun _=>⟨M.bel.size,cs,ty,hnew,rfl,by simp;rw [CZ hc];simp⟩,fun hf=>by cases hf⟩
   obtain ⟨z,hz,hr⟩:=IL k y hc hy
   exact ⟨z,by simp only [World.cell?,hnew];simpa using hz,LK hsub hr⟩
  ·rw [ET _ _ hh] at hx
   have hcon:=M.con x p i ob hx hi hob
   refine SL hcon hsub ?_
   cases hp:p.own with
   | true=>exact .inl (hold _ (hblk x p i ob hx hi hob hp))
   | false=>
     rcases hcon.2.2.2 hp with hz | hz
     ·exact .inr ⟨hz,rfl⟩
     ·exact .inl (hold _ (Nat.lt_of_lt_of_le hz M.bel.size))
 ·by_cases hh:x=(sts j).n
  ·subst hh
   by_cases hh':x'=(sts j).n
   ·exact hh'.symm
   ·rw [DE] at hx;cases hx
    rw [ET _ _ hh'] at hx'
    have:=hblk x' p' i' ob' hx' hi' ho' hp'
    simp only at hb;omega
  ·rw [ET _ _ hh] at hx
   by_cases hh':x'=(sts j).n
   ·subst hh'
    rw [DE] at hx';cases hx'
    have:=hblk x p i ob hx hi ho hp
    simp only at hb;omega
   ·rw [ET _ _ hh'] at hx'
    exact M.inj x x' p p' i i' ob ob' hx hx' hi hi' ho ho' hp hp' hb
 ·have:=M.wsz
  rw [hold k (by omega)];exact M.frame k hk hn
 ·by_cases hh:x=(sts j).n
  ·subst hh
   rw [DE] at hx;cases hx
   have:=M.wsz
   simp only at hb;omega
  ·rw [ET _ _ hh] at hx
   exact M.own k hk ⟨x,p,i,ob,hx,hi,ho,hp,hb⟩
theorem Mid.same (hO:Ord L ops) (T:Tr C ops L DH sts envs) (M:Mid C B ops DH sts envs ρ1 W1 ls e ρ W a) {j:Nat} {o:Oper} (h:Nxt ops ls j o) (hj:IsM C ops envs j) {x:Nat} (hlt:x<(sts j).n): ∃i,Idx ops sts e x i∧(sts i).get x=(sts j).get x:=by
 have hjs:=h.lt
 have hej:e≤j:=by
  rcases Nat.lt_or_ge j e with h1 | h1
  ·exact absurd ((M.YJ hO hj).2 h1) h.not
  ·exact h1
 have none_: ∀k,e≤k→k<j→ ¬IsM C ops envs k:=fun k h1 h2 hk=>by
  have hoff: ¬On ls k:=fun hon=>by have:=M.last.2 k hon hk;omega
  obtain ⟨o1,st1,ho1,hop1,hmu1,_⟩:=hk
  obtain ⟨o2,st2,ho2,hop2,hmu2,_⟩:=hj
  have hu:=Q3 hO M.shut h.get h.all h.not ho1 (.inr ⟨hoff,h2⟩)
  rw [h.get] at ho2;cases ho2
  exact (hO.pair k j o1 o h2 ho1 h.get hu).2 ⟨O4 hop1 hmu1,O4 hop2 hmu2⟩
 obtain ⟨i,hi,hcase⟩:=M.idx T (Nat.le_of_lt hjs) hlt
 have hij:i≤j:=by rcases hcase with ⟨h1,_⟩ | ⟨_,h1⟩ <;> omega
 exact ⟨i,hi,(T.chain j i hij (Nat.le_of_lt hjs) hi.2.2.1 fun k h4 h5 hk=>absurd hk (none_ k (Nat.le_trans hi.1 h4) h5)).symm⟩
theorem Mid.oB (hO:Ord L ops) (T:Tr C ops L DH sts envs) (M:Mid C B ops DH sts envs ρ1 W1 ls e ρ W a) {j:Nat} {o:Oper} (h:Nxt ops ls j o) (hj:IsM C ops envs j):Rel C ρ (sts j) W:=by
 refine ⟨fun x p ob hx hob=> ?_,fun x x' p p' ob ob' hx hx' ho ho' hp hp' hb=> ?_,M.bel⟩
 ·obtain ⟨i,hi,heq⟩:=M.same hO T h hj (St.FK hob)
  exact M.con x p i ob hx hi (by rw [heq];exact hob)
 ·obtain ⟨i,hi,heq⟩:=M.same hO T h hj (St.FK ho)
  obtain ⟨i',hi',heq'⟩:=M.same hO T h hj (St.FK ho')
  exact M.inj x x' p p' i i' ob ob' hx hx' hi hi' (by rw [heq];exact ho) (by rw [heq'];exact ho') hp hp' hb
theorem u7 (hl:ls.size=ops.size) {k:Nat} (h:On ls k):k<ops.size:=by
 rw [←hl]
 unfold On at h
 rcases Nat.lt_or_ge k ls.size with h' | h'
 ·exact h'
 ·simp [Array.getElem?_eq_none h'] at h
theorem Mid.oD (T:Tr C ops L DH sts envs) (M:Mid C B ops DH sts envs ρ1 W1 ls e ρ W a) {j:Nat} {o:Oper} (h:Nxt ops ls j o) (hf1:TQ ρ1 (sts 0).n (sts ops.size).n):TQ ρ (sts j).n (sts (j+1)).n:=by
 intro x h1 h2
 have hjs:=h.lt
 cases hp:ρ x with
 | none=>rfl
 | some p=>
   rcases M.dom _ p hp with h3 | ⟨k,h3,h4,h5⟩
   ·have q1:=T.mono j 0 (Nat.zero_le _) (Nat.le_of_lt hjs)
    have q2:=T.mono ops.size (j+1) hjs (Nat.le_refl _)
    rw [hf1 x (by omega) (by omega)] at h3;cases h3
   ·have hks:=u7 M.lsz h3
    rcases Nat.lt_trichotomy k j with h6 | h6 | h6
    ·have:=T.mono j (k+1) h6 (Nat.le_of_lt hjs);omega
    ·subst h6;exact absurd h3 h.not
    ·have:=T.mono k (j+1) h6 (Nat.le_of_lt hks);omega
theorem Mid.EY (hO:Ord L ops) (T:Tr C ops L DH sts envs) (M:Mid C B ops DH sts envs ρ1 W1 ls e ρ W a) {j:Nat} {o:Oper} (h:Nxt ops ls j o) (hd: ∀t,o.dst=some t→t<B.nt) (hj:IsM C ops envs j)
  {ρ':Rho} {W':World} {u:Value} (hR:Rel C ρ' (sts (j+1)) W') (hw:Way ρ (sts j) W ρ' (sts (j+1)) W') (hv:VR ρ' (DH j) u):
  Mid C B ops DH sts envs ρ1 W1 (ls.setIfInBounds j true) (j+1) ρ' W' (a.put o.dst u):=by
 have hjl:j<ls.size:=by rw [M.lsz];exact h.lt
 have hjs:=h.lt
 have hej:e≤j:=by
  rcases Nat.lt_or_ge j e with h1 | h1
  ·exact absurd ((M.YJ hO hj).2 h1) h.not
  ·exact h1
 have hRj:=M.oB hO T h hj
 have far: ∀x i,Idx ops sts (j+1) x i→ ¬x<(sts (j+1)).n→Idx ops sts e x i∧ρ' x=ρ x:=by
  intro x i hi hx
  refine ⟨⟨by have:=hi.1;omega,hi.2.1,hi.2.2.1, .inr ?_⟩,hw.agree x (.inr (by omega))⟩
  rcases hi.2.2.2 with h1 | h1
  ·subst h1;exact absurd hi.2.2.1 hx
  ·exact h1
 have near: ∀x i,Idx ops sts (j+1) x i→x<(sts (j+1)).n→i=j+1:=by
  intro x i hi hx
  rcases hi.2.2.2 with h1 | h1
  ·exact h1
  ·have h2:=hi.1
   by_cases h3:i=j+1
   ·exact h3
   ·have h4:=hi.2.1
    have:=T.mono (i-1) (j+1) (by omega) (by omega);omega
 have other: ∀x p i ob,ρ x=some p→Idx ops sts e x i→(sts i).get x=some ob→p.own=true→ ¬x<(sts (j+1)).n→ ¬SP ρ (sts j) p.b:=by
  intro x p i ob hx hi hob hp hfar ⟨y,q,ob2,h1,h2,h3,h4⟩
  obtain ⟨i2,hi2,heq⟩:=M.same hO T h hj (St.FK h2)
  have:=M.inj y x q p i2 i ob2 ob h1 hx hi2 hi (by rw [heq];exact h2) hob h3 hp h4
  subst this
  have q1:=St.FK h2
  have q2:=T.mono (j+1) j (by omega) hjs
  omega
 have blk: ∀x p i ob,ρ x=some p→Idx ops sts e x i→(sts i).get x=some ob→p.own=true→p.b<W.heap.size:=fun x p i ob h1 h2 h3 h4=>by
  obtain ⟨_,cs',e',h5,_⟩:=(M.con x p i ob h1 h2 h3).2.2.1 h4
  exact (Array.getElem?_eq_some_iff.1 h5).1
 refine ⟨by simp [M.lsz],M.VD h,by rw [RT,M.size],by rw [LL,M.defers],M.YU hO h hd hw.sub hv,fun x p hx=> ?_,M.sub.trans hw.sub,fun x hx=> ?_,⟨.inr ⟨j,rfl,(GZ hjl).2 (.inl rfl),hj⟩,fun m hon hmm=> ?_⟩,
  fun x p i ob hx hi hob=> ?_,fun x x' p p' i i' ob ob' hx hx' hi hi' ho ho' hp hp' hb=> ?_,hR.bel,Nat.le_trans M.wsz hw.size,fun k hk hn=> ?_,fun k hk ⟨x,p,i,ob,hx,hi,ho,hp,hb⟩=> ?_⟩
 ·by_cases hin:(sts j).n≤x∧x<(sts (j+1)).n
  ·exact .inr ⟨j,(GZ hjl).2 (.inl rfl),hin⟩
  ·rw [hw.agree x (by omega)] at hx
   rcases M.dom x p hx with h1 | ⟨k,h1,h2⟩
   ·exact .inl h1
   ·exact .inr ⟨k,(GZ hjl).2 (.inr h1),h2⟩
 ·have h1:=T.mono j 0 (Nat.zero_le _) (Nat.le_of_lt hjs)
  have h2:=T.mono ops.size (j+1) hjs (Nat.le_refl _)
  rw [hw.agree x (by omega)];exact M.out x hx
 ·rcases (GZ hjl).1 hon with rfl | hon
  ·omega
  ·have:=M.last.2 m hon hmm;omega
 ·by_cases hin:x<(sts (j+1)).n
  ·have:=near x i hi hin
   subst this
   exact hR.con x p ob hx hob
  ·obtain ⟨hi2,heq⟩:=far x i hi hin
   rw [heq] at hx
   have hcon:=M.con x p i ob hx hi2 hob
   refine SL hcon hw.sub ?_
   cases hp:p.own with
   | true=>exact .inl (hw.frame _ (blk x p i ob hx hi2 hob hp) (other x p i ob hx hi2 hob hp hin))
   | false=>
     rcases hcon.2.2.2 hp with hz | hz
     ·exact .inr ⟨hz,rfl⟩
     ·refine .inl (hw.frame _ (Nat.lt_of_lt_of_le hz M.bel.size) fun ⟨y,q,ob2,h1,h2,h3,h4⟩=> ?_)
      have:=((hRj.con y q ob2 h1 h2).2.2.1 h3).1
      omega
 ·by_cases hin:x<(sts (j+1)).n
  ·have e1:=near x i hi hin
   subst e1
   by_cases hin':x'<(sts (j+1)).n
   ·have e2:=near x' i' hi' hin'
    subst e2
    exact hR.inj x x' p p' ob ob' hx hx' ho ho' hp hp' hb
   ·obtain ⟨hi2,heq⟩:=far x' i' hi' hin'
    rw [heq] at hx'
    have hb2:=blk x' p' i' ob' hx' hi2 ho' hp'
    exact absurd (hw.own p'.b hb2 ⟨x,p,ob,hx,ho,hp,hb⟩) (other x' p' i' ob' hx' hi2 ho' hp' hin')
  ·obtain ⟨hi1,heq1⟩:=far x i hi hin
   rw [heq1] at hx
   by_cases hin':x'<(sts (j+1)).n
   ·have e2:=near x' i' hi' hin'
    subst e2
    have hb2:=blk x p i ob hx hi1 ho hp
    exact absurd (hw.own p.b hb2 ⟨x',p',ob',hx',ho',hp',hb.symm⟩) (other x p i ob hx hi1 ho hp hin)
   ·obtain ⟨hi2,heq⟩:=far x' i' hi' hin'
    rw [heq] at hx'
    exact M.inj x x' p p' i i' ob ob' hx hx' hi1 hi2 ho ho' hp hp' hb
 ·have hk2:=M.wsz
  rw [hw.frame k (by omega) fun ⟨y,q,ob2,h1,h2,h3,h4⟩=> ?_]
  ·exact M.frame k hk hn
  ·obtain ⟨i2,hi2,heq⟩:=M.same hO T h hj (St.FK h2)
   exact hn (M.own k hk ⟨y,q,i2,ob2,h1,hi2,by rw [heq];exact h2,h3,h4⟩)
 ·have hk2:=M.wsz
  by_cases hin:x<(sts (j+1)).n
  ·have e1:=near x i hi hin
   subst e1
   obtain ⟨y,q,ob2,h1,h2,h3,h4⟩:=hw.own k (by omega) ⟨x,p,ob,hx,ho,hp,hb⟩
   obtain ⟨i2,hi2,heq⟩:=M.same hO T h hj (St.FK h2)
   exact M.own k hk ⟨y,q,i2,ob2,h1,hi2,by rw [heq];exact h2,h3,h4⟩
  ·obtain ⟨hi2,heq⟩:=far x i hi hin
   rw [heq] at hx
   exact M.own k hk ⟨x,p,i,ob,hx,hi2,ho,hp,hb⟩
end
end Go.Proofs.Ytklmcfpgdfibnaa.Eng
namespace Go.Proofs.Ytklmcfpgdfibnaa.Eng
open Go Go.RowKit
set_option linter.unusedVariables false
set_option linter.unusedSimpArgs false
section
variable {C:Ctx} {B:Start} {ops:Array Oper} {L:List Nat} {DH:Nat→Value} {sts:Nat→St} {envs:Nat→Env} {ρ1 ρ:Rho} {W1 W:World} {ls:Array Bool} {e:Nat} {a:Act}
theorem Z7 {o:Oper} {env:Env} (hl: ∀t∈o.looksAt ops,VR ρ (lk env t) (a.tmps.getD t undef)) (h:K9 ops env o):Region.wanted o (yielded ops a.tmps)=true:=by
 unfold Region.wanted
 rcases h with h | ⟨j,want,t,h1,h2,h3⟩
 ·rw [h]
 ·rw [h1]
  have hv:=hl t (List.mem_append_right _ (by rw [h1];simp only;unfold C6 at h2;rw [h2];simp))
  rw [h3] at hv
  simp [NC h2 (IG hv)]
theorem ZB {o:Oper} {env:Env} (hl: ∀t∈o.looksAt ops,VR ρ (lk env t) (a.tmps.getD t undef)) (h:S1 ops env o):Region.wanted o (yielded ops a.tmps)=false:=by
 unfold Region.wanted
 obtain ⟨j,want,t,h1,h2,h3⟩:=h
 rw [h1]
 have hv:=hl t (List.mem_append_right _ (by rw [h1];simp only;unfold C6 at h2;rw [h2];simp))
 rcases h3 with h3 | h3
 ·rw [h3] at hv
  simp [NC h2 (IG hv)]
 ·rw [h3] at hv
  have:a.tmps.getD t undef=undef:=by
   obtain ⟨us,hu,hus⟩:=hv
   rw [hu]
   cases us with | mk l=>cases l with
    | nil=>rfl
    | cons _ _=>exact hus.elim
  simp [P5 h2 this]
theorem Mid.done (hO:Ord L ops) (T:Tr C ops L DH sts envs) (M:Mid C B ops DH sts envs ρ1 W1 ls e ρ W a) (hall: ∀k,k<ops.size→On ls k) (hw1:Way B.ρ B.s B.W ρ1 (sts 0) W1) (hf1:TQ ρ1 (sts 0).n B.top) (htop:(sts ops.size).n≤B.top):
  PL C B ρ (sts ops.size) W (envs ops.size) a:=by
 have same: ∀x,x<(sts ops.size).n→ ∃i,Idx ops sts e x i∧(sts i).get x=(sts ops.size).get x:=by
  intro x hx
  obtain ⟨i,hi,_⟩:=M.idx T (Nat.le_refl _) hx
  refine ⟨i,hi,(T.chain ops.size i hi.2.1 (Nat.le_refl _) hi.2.2.1 fun k h4 h5 hk=> ?_).symm⟩
  have:=M.last.2 k (hall k h5) hk
  have:=hi.1;omega
 have hmono:=T.mono ops.size 0 (Nat.zero_le _) (Nat.le_refl _)
 refine ⟨⟨fun x p ob hx hob=> ?_,fun x x' p p' ob ob' hx hx' ho ho' hp hp' hb=> ?_,M.bel⟩,fun t=>M.gB T (Nat.le_refl _) fun k hk=> ?_,M.size,M.defers,hw1.trans ⟨hmono,M.sub,M.out,M.wsz,M.frame,fun k hk ⟨y,q,ob2,h1,h2,h3,h4⟩=> ?_⟩,fun x h1 h2=> ?_⟩
 ·obtain ⟨i,hi,heq⟩:=same x (St.FK hob)
  exact M.con x p i ob hx hi (by rw [heq];exact hob)
 ·obtain ⟨i,hi,heq⟩:=same x (St.FK ho)
  obtain ⟨i',hi',heq'⟩:=same x' (St.FK ho')
  exact M.inj x x' p p' i i' ob ob' hx hx' hi hi' (by rw [heq];exact ho) (by rw [heq'];exact ho') hp hp' hb
 ·obtain ⟨o,ho,_⟩:=gU hk
  have hks:=(Array.getElem?_eq_some_iff.1 ho).1
  exact ⟨fun _=>hks,fun _=>hall k hks⟩
 ·obtain ⟨i,hi,heq⟩:=same y (St.FK h2)
  exact M.own k hk ⟨y,q,i,ob2,h1,hi,by rw [heq];exact h2,h3,h4⟩
 ·rw [M.out x (.inr h1)];exact hf1 x (by omega) h2
theorem WA {i:Nat} (hl:ls.size=ops.size) (hi:i<ops.size) (h:ls.getD i true=true):On ls i:=by
 have:i<ls.size:=by omega
 unfold On
 simp [this] at h ⊢
 exact h
theorem jI (hO:Ord L ops) (hl:ls.size=ops.size) (hr:Region.ready .any ops ls=[]): ∀i,i<ops.size→On ls i:=by
 intro i
 induction i using Nat.strongRecOn with
 | _ i ih=>
   intro hi
   cases hg:ls.getD i true with
   | true=>exact WA hl hi hg
   | false=>
     have hmem:i∈Region.ready .any ops ls:=by
      rw [mem_ready]
      have hget:ops[i]? =some ops[i]:=by rw [Array.getElem?_eq_getElem hi]
      refine ⟨hg,ops[i],hget,fun ed he hb=> ?_⟩
      have hlt:=hO.down i _ hget ed he hb
      exact ih ed.on hlt (by omega)
     rw [hr] at hmem;cases hmem
theorem jS {Q:Exit→Act→World→Prop} {K:Env→Eng.Q} (hfit:VU B.nt ops=true) (hO:Ord L ops) (T:Tr C ops L DH sts envs) (hk:KS C B (Q .normal) K) (hK:K (envs ops.size) (sts ops.size))
  (hw1:Way B.ρ B.s B.W ρ1 (sts 0) W1) (hf1:TQ ρ1 (sts 0).n B.top): ∀(fuel:Nat) (ls:Array Bool) (e:Nat) (ρ:Rho) (W:World) (a:Act),Mid C B ops DH sts envs ρ1 W1 ls e ρ W a→left ls ops.size≤fuel→wpAny C.P .any ops Q fuel ls a W:=by
 have htop:=hk.1 _ _ hK
 have fin: ∀{ls e ρ W a},Mid C B ops DH sts envs ρ1 W1 ls e ρ W a→(∀k,k<ops.size→On ls k)→Q .normal a W:=fun M hall=>hk.2 _ _ _ _ _ hK (M.done hO T hall hw1 hf1 htop)
 intro fuel
 induction fuel with
 | zero=>
   intro ls e ρ W a M hleft
   have hz:=X2 ops.size (by omega:left ls ops.size=0)
   refine ⟨?_,fin M fun k hk=>WA M.lsz hk (hz k hk)⟩
   cases hr:Region.ready .any ops ls with
   | nil=>rfl
   | cons x xs=>
     have hx:x∈Region.ready .any ops ls:=by rw [hr];simp
     obtain ⟨h1,o,ho,_⟩:=mem_ready.1 hx
     have:=hz x (Array.getElem?_eq_some_iff.1 ho).1
     rw [h1] at this;cases this
 | succ fuel ih=>
   intro ls e ρ W a M hleft
   refine ⟨fun hr=>fin M (jI hO M.lsz hr),fun i hi=> ?_⟩
   obtain ⟨h1,o,ho,hall⟩:=mem_ready.1 hi
   have h:Nxt ops ls i o:=⟨ho,h1,hall⟩
   have hlt:=h.lt
   have hleft':left (ls.setIfInBounds i true) ops.size≤fuel:=by
    have:=aE h1 ops.size
    rw [if_pos hlt] at this;omega
   have hd:=VE hfit ho
   obtain ⟨st,hat⟩:=T.at_ i o (Nat.zero_le _) ho
   have hl: ∀t∈o.looksAt ops,VR ρ (lk (envs i) t) (a.tmps.getD t undef):=fun t ht=>M.gB T (Nat.le_of_lt hlt) fun k hkd=>h.fF hO M.shut (.inl ht) hkd
   obtain ⟨env',hE,hop,_⟩:=only (P:=C.P) hl
   rw [hat.op] at hop
   unfold wpOp
   simp only [ho]
   rcases hat.go with ⟨hr,hg⟩ | ⟨hs,hv,_⟩
   ·rw [if_pos (Z7 hl hr)]
    have notM:ZF st=false→ ¬IsM C ops envs i:=fun hm ⟨o2,st2,ho2,hop2,hmu2,_⟩=>by
     rw [ho] at ho2;cases ho2
     rw [hat.op] at hop2;cases hop2
     rw [hm] at hmu2;cases hmu2
    cases st with
    | val x=>
      obtain ⟨u,hu,hrun⟩:=XH hE hop
      rw [←hg.1] at hu
      exact .inl (PY (hrun W) (ih _ _ _ _ _ (M.fM hO h hd hu (notM rfl)) hleft'))
    | pure x=>
      obtain ⟨u,hu,hrun⟩:=UW hE hop hg.1
      exact .inl (PY (hrun W) (ih _ _ _ _ _ (M.fM hO h hd hu (notM rfl)) hleft'))
    | rd w g=>
      obtain ⟨_,u,hu,hrun⟩:=bW (W:=W) (B0:=C.w0.heap.size) hE hop hg fun x p ob hx hp hob=>M.vA hO T h hat.op hr hx hp hob
      exact .inl (PY hrun (ih _ _ _ _ _ (M.fM hO h hd hu (notM rfl)) hleft'))
    | al g=>
      obtain ⟨cells,cs,ty,hs,hc,hv,hrun⟩:=aU (ρ:=ρ) hE hop hg
      obtain ⟨u,hu,hvr⟩:=hrun W
      have hn1:(sts (i+1)).n=(sts i).n+1:=by rw [hs];rfl
      have hfi:ρ1 (sts i).n=none:=hf1 _ (T.mono i 0 (Nat.zero_le _) (Nat.le_of_lt hlt)) (by
       have:=T.mono ops.size (i+1) hlt (Nat.le_refl _);omega)
      exact .inl (PY hu (ih _ _ _ _ _ (M.tZ hO T h hd hat.op hs hv hc (hvr _ (DE _ _ _)) hfi) hleft'))
    | mu g=>
      have hm:IsM C ops envs i:=⟨o,_,ho,hat.op,rfl,hr⟩
      exact .inl <| SG (M.oB hO T h hm) hE hop hg (M.oD T h fun x h1 h2=>hf1 x h1 (by omega)) (fun ρ' W' u hR hw hv=>ih _ _ _ _ _ (M.EY hO T h hd hm hR hw hv) hleft')
    | call f as=>
      have hm:IsM C ops envs i:=⟨o,_,ho,hat.op,rfl,hr⟩
      exact .inl <| SG (M.oB hO T h hm) hE hop hg (M.oD T h fun x h1 h2=>hf1 x h1 (by omega)) (fun ρ' W' u hR hw hv=>ih _ _ _ _ _ (M.EY hO T h hd hm hR hw hv) hleft')
   ·rw [if_neg (by rw [ZB hl hs];simp)]
    have hnm: ¬IsM C ops envs i:=fun ⟨o2,st2,ho2,hop2,hmu2,hr2⟩=>by
     rw [ho] at ho2;cases ho2
     exact VF hr2 hs
    exact ih _ _ _ _ _ (M.fM hO h hd (by rw [hv];exact aX) hnm) hleft'
end
theorem gW (ls:Array Bool): ∀k,left ls k≤k
 | 0=>Nat.le_refl _
 | k+1=>by
   have:=gW ls k
   simp only [left]
   split <;> omega
theorem WS {C:Ctx} {B:Start} {ops:Array Oper} {L:List Nat} {Q:Exit→Act→World→Prop} {K:Env→Eng.Q} (hfit:VU B.nt ops=true) (hok:ND L ops 0 ops.toList=true) (hk:KS C B (Q .normal) K)
  {env:Env} {s:St} {ρ:Rho} {W:World} {a:Act} (h:B3 C ops L 0 ops.toList env [] [] K s) (hh:PL C B ρ s W env a):wpAny C.P .any ops Q ops.size (Array.replicate ops.size false) a W:=by
 obtain ⟨DH,sts,envs,he,hs,hK,T⟩:=aZ ops.toList 0 env [] [] s (by simp) (Nat.zero_le _) h
 have hO:=sV hok
 subst he
 subst hs
 have hoff: ∀k, ¬On (Array.replicate ops.size false) k:=fun k hk=>by
  unfold On at hk
  by_cases hlt:k<ops.size <;> simp [hlt] at hk
 have near: ∀x p i,ρ x=some p→Idx ops sts 0 x i→i=0:=by
  intro x p i hx hi
  have h1:=T.mono ops.size i hi.2.1 (Nat.le_refl _)
  have h2:=hk.1 _ _ hK
  have h3:x<(sts 0).n:=by
   rcases Nat.lt_or_ge x (sts 0).n with h4 | h4
   ·exact h4
   ·have:=hi.2.2.1
    rw [hh.free x h4 (by omega)] at hx;cases hx
  rcases hi.2.2.2 with h4 | h4
  ·exact h4
  ·have h5:=hi.2.1
   have:=T.mono (i-1) 0 (Nat.zero_le _) (by omega)
   omega
 refine jS hfit hO T hk hK hh.way hh.free ops.size _ 0 ρ W a ⟨by simp,fun j o hj=>(hoff j hj).elim,hh.size,hh.defers,fun t=> .inr ⟨fun k hk=>(hoff k hk).elim,hh.vre t⟩,fun x p hx=> .inl hx,Sub.refl _,fun _ _=>rfl,⟨.inl rfl,fun m hm=>(hoff m hm).elim⟩, ?_, ?_,hh.rel.bel,Nat.le_refl _,fun _ _ _=>rfl, ?_⟩ ?_
 ·intro x p i ob hx hi hob
  obtain rfl:=near x p i hx hi
  exact hh.rel.con x p ob hx hob
 ·intro x x' p p' i i' ob ob' hx hx' hi hi' ho ho' hp hp' hb
  obtain rfl:=near x p i hx hi
  obtain rfl:=near x' p' i' hx' hi'
  exact hh.rel.inj x x' p p' ob ob' hx hx' ho ho' hp hp' hb
 ·rintro k hk ⟨x,p,i,ob,hx,hi,ho,hp,hb⟩
  obtain rfl:=near x p i hx hi
  exact ⟨x,p,ob,hx,ho,hp,hb⟩
 ·exact gW _ _
end Go.Proofs.Ytklmcfpgdfibnaa.Eng
namespace Go.Proofs.Ytklmcfpgdfibnaa.Eng
open Go Go.RowKit
set_option linter.unusedVariables false
set_option linter.unusedSimpArgs false
def LW (P:Program) (c:Code) (Q:Exit→Act→World→Prop) (a:Act) (w:World):Prop:= ∀(b:Frame) (k:List Item) (cs:List Frame),
 ∃e a' w',Q e a' w'∧Arrives P (lone (b.at a (.code c:: .inLoop c::k)) cs w) b k cs e a' w'
theorem oK {P:Program} {c:Code} {Q:Exit→Act→World→Prop} {a:Act} {w:World} (h:c.wp P (Exit.then (LW P c Q) Q) a w):LW P c Q a w:=by
 intro b k cs
 obtain ⟨e,a₁,w₁,hq,harr⟩:=h b (.inLoop c::k) cs
 cases e with
 | normal=>
   obtain ⟨e₂,a₂,w₂,hq₂,harr₂⟩:=hq b k cs
   exact ⟨e₂,a₂,w₂,hq₂, .of_steps (Steps.trans harr (.one step_inLoop)) harr₂⟩
 | exit id=>exact ⟨_,a₁,w₁,hq, .pass (x:= .inLoop c) rfl (fun _ _=> .inl (by simp)) harr⟩
 | goto l=>exact ⟨_,a₁,w₁,hq, .pass (x:= .inLoop c) rfl (fun _ _=> .inl (by simp)) harr⟩
 | ret=>exact ⟨_,a₁,w₁,hq, .pass (x:= .inLoop c) rfl (fun _ _=> .inl (by simp)) harr⟩
 | panic ch=>exact ⟨_,a₁,w₁,hq, .pass (x:= .inLoop c) rfl (fun _ _=> .inl (by simp)) harr⟩
 | outgrown=>exact ⟨_,a₁,w₁,hq, .pass (x:= .inLoop c) rfl (fun _ _=> .inl (by simp)) harr⟩
theorem lH {P:Program} {c:Code} {Q:Exit→Act→World→Prop} {a:Act} {w:World} (h:LW P c Q a w):(Code.loop c).wp P Q a w:=by
 intro b k cs
 obtain ⟨e,a',w',hq,harr⟩:=h b k cs
 exact ⟨e,a',w',hq, .of_steps (.one step_loop) harr⟩
section
variable {C:Ctx} {B:Start}
theorem kS {ρ:Rho} {env:Env} {a:Act} (hE:VRE ρ env a): ∀(L:List Nat) (i:Nat) (xs:List Value),(∀j t,L[j]? =some t→nx xs (i+j)=lk env t∨nx xs (i+j)=dJ)→VRE ρ (inj L i xs) a
 | [],i,xs,_=>fun t=>RG _ _
 | l::L,i,xs,h=>fun t=>by
   simp only [inj,NA]
   by_cases ht:l=t
   ·subst ht
    rw [if_pos rfl]
    rcases h 0 l rfl with h0 | h0
    ·simp only [Nat.add_zero] at h0;rw [h0];exact hE l
    ·simp only [Nat.add_zero] at h0;rw [h0];exact RG _ _
   ·rw [if_neg ht]
    exact kS hE L (i+1) xs (fun j t hj=>by have:=h (j+1) t (by simpa using hj);rwa [show i+(j+1)=i+1+j by omega] at this) t
theorem UL {ρ:Rho} {env:Env} {a:Act} (hE:VRE ρ env a) (L:List Nat):VRE ρ (inj L 0 (proj L env)) a:=
 kS hE L 0 _ fun j t hj=> .inl (by simp [nx,proj,hj])
theorem PL.env {ρ:Rho} {s:St} {W:World} {env env':Env} {a:Act} (h:PL C B ρ s W env a) (hE:VRE ρ env' a):PL C B ρ s W env' a:=⟨h.rel,hE,h.size,h.defers,h.way,h.free⟩
theorem PL.drew {ρ:Rho} {s:St} {W:World} {env:Env} {a:Act} (h:PL C B ρ s W env a):PL C B ρ s {W with drawn:=W.drawn+1} env a:=
 ⟨⟨h.rel.con,h.rel.inj,h.rel.bel.drew⟩,h.vre,h.size,h.defers,⟨h.way.n,h.way.sub,h.way.agree,h.way.size,h.way.frame,h.way.own⟩,h.free⟩
def xR:Ex→Exit
 | .nor=> .normal
 | .ext id=> .exit id
 | .rt=> .ret
theorem GO (hm:C.P.follows .mixedOrders=true) {an:List (Nat×List Nat)} {rm:Nat}: ∀(c:Code),fits B.nt c=true→ ∀(Q:Exit→Act→World→Prop) (κ:Kap) (env:Env) (lo:Nat) (exs:List (Nat×Nat)) (s:St) (ρ:Rho) (W:World) (a:Act),
  (∀e,KS C B (Q (xR e)) (κ e))→exec C an rm B.nt c env lo exs κ s→PL C B ρ s W env a→c.wp C.P Q a W
 | .skip,_,Q,κ,env,lo,exs,s,ρ,W,a,hκ,h,hh=>wp_skip ((hκ .nor).2 env s ρ W a h hh)
 | .region id ops false,hf,Q,κ,env,lo,exs,s,ρ,W,a,hκ,h,hh=>by
   have:=NB hf (hκ .nor) ops.toList 0 (by simp) env s ρ W a h hh
   exact wp_region (by rw [List.range_eq_range'];simpa using this)
 | .region id ops true,hf,Q,κ,env,lo,exs,s,ρ,W,a,hκ,h,hh=>by
   simp only [exec] at h
   cases hl:Z8 an id with
   | none=>rw [hl] at h;exact h.elim
   | some L=>
     rw [hl] at h
     cases hd:ND L ops 0 ops.toList with
     | false=>simp only [hd] at h
     | true=>
       simp only [hd] at h
       exact wp_region_any hm (WS hf hd (hκ .nor) h hh.drew)
 | .seq x y,hf,Q,κ,env,lo,exs,s,ρ,W,a,hκ,h,hh=>by
   simp only [fits,Bool.and_eq_true] at hf
   simp only [exec] at h
   refine wp_seq ?_
   cases he:Nat.ble (ends x) 1 with
   | true=>
     rw [he] at h
     refine GO hm x hf.1 _ _ env _ _ s ρ W a (fun e=> ?_) h hh
     cases e with
     | nor=>
       refine ⟨fun env' s' h'=> ?_,fun env' s' ρ' W' a' h' hh'=>GO hm y hf.2 Q κ env' _ _ s' ρ' W' a' hκ h' hh'⟩
       obtain ⟨e,env2,s2,hn,h2,_⟩:=F5 y env' _ _ _ s' h'
       exact Nat.le_trans hn ((hκ e).1 _ _ h2)
     | ext i=>exact hκ (.ext i)
     | rt=>exact hκ .rt
   | false=>
     rw [he] at h
     refine GO hm x hf.1 _ _ env _ _ s ρ W a (fun e=> ?_) h hh
     cases e with
     | nor=>
       refine ⟨fun env' s' h'=> ?_,fun env' s' ρ' W' a' h' hh'=>GO hm y hf.2 Q κ _ _ _ s' ρ' W' a' hκ h' (hh'.env (UL hh'.vre _))⟩
       obtain ⟨e,env2,s2,hn,h2,_⟩:=F5 y _ _ _ _ s' h'
       exact Nat.le_trans hn ((hκ e).1 _ _ h2)
     | ext i=>exact hκ (.ext i)
     | rt=>exact hκ .rt
 | .cond c x y,hf,Q,κ,env,lo,exs,s,ρ,W,a,hκ,h,hh=>by
   simp only [fits,Bool.and_eq_true] at hf
   simp only [exec] at h
   have hv:=C3 hh.vre c
   rcases h with ⟨hc,h⟩ | ⟨hc,h⟩
   ·rw [hc] at hv
    exact wp_cond_true (IG hv) (GO hm x hf.1 Q κ env _ _ s ρ W a hκ h hh)
   ·rw [hc] at hv
    exact wp_cond_false (IG hv) (GO hm y hf.2 Q κ env _ _ s ρ W a hκ h hh)
 | .block id c,hf,Q,κ,env,lo,exs,s,ρ,W,a,hκ,h,hh=>by
   simp only [fits] at hf
   simp only [exec] at h
   refine wp_block (GO hm c hf _ _ env _ _ s ρ W a (fun e=> ?_) h hh)
   cases e with
   | nor=>exact hκ .nor
   | ext i=>
     show KS C B (fun a w=>if i=id then Q .normal a w else Q (.exit i) a w) (match Nat.beq i id with
      | true=>κ .nor
      | false=>κ (.ext i))
     cases hi:Nat.beq i id with
     | true=>
       have:i=id:=Nat.eq_of_beq_eq_true hi
       simp only [this,if_true]
       exact hκ .nor
     | false=>
       have:i≠id:=fun hh=>by subst hh;simp at hi
       simp only [this,if_false]
       exact hκ (.ext i)
   | rt=>exact hκ .rt
 | .loop c,hf,Q,κ,env,lo,exs,s,ρ,W,a,hκ,h,hh=>by
   simp only [fits] at hf
   simp only [exec] at h
   refine lH (h (fun xs s=>s.n≤B.top∧ ∀ρ W a,PL C B ρ s W (inj (bitsOf (live rm c (live rm c 0 exs) exs) B.nt) 0 xs) a→LW C.P c Q a W) (fun xs s' hF=> ?_) |>.2 ρ W a (hh.env (UL hh.vre _)))
   refine ⟨?_,fun ρ' W' a' hh'=>oK (GO hm c hf _ _ _ _ _ s' ρ' W' a' (fun e=> ?_) hF hh')⟩
   ·obtain ⟨e,env2,s2,hn,h2,_⟩:=F5 c _ _ _ _ s' hF
    cases e with
    | nor=>exact Nat.le_trans hn h2.1
    | ext i=>exact Nat.le_trans hn ((hκ (.ext i)).1 _ _ h2)
    | rt=>exact Nat.le_trans hn ((hκ .rt).1 _ _ h2)
   ·cases e with
    | nor=>exact ⟨fun env1 s1 h1=>h1.1,fun env1 s1 ρ1 W1 a1 h1 hh1=>h1.2 ρ1 W1 a1 (hh1.env (UL hh1.vre _))⟩
    | ext i=>exact hκ (.ext i)
    | rt=>exact hκ .rt
 | .exit id,_,Q,κ,env,lo,exs,s,ρ,W,a,hκ,h,hh=>wp_exit ((hκ (.ext id)).2 env s ρ W a h hh)
 | .ret,_,Q,κ,env,lo,exs,s,ρ,W,a,hκ,h,hh=>wp_ret ((hκ .rt).2 env s ρ W a h hh)
 | .rangeFunc ..,_,Q,κ,env,lo,exs,s,ρ,W,a,hκ,h,hh=>h.elim
 | .scope ..,_,Q,κ,env,lo,exs,s,ρ,W,a,hκ,h,hh=>h.elim
 | .label ..,_,Q,κ,env,lo,exs,s,ρ,W,a,hκ,h,hh=>h.elim
 | .goto ..,_,Q,κ,env,lo,exs,s,ρ,W,a,hκ,h,hh=>h.elim
 | .refuse ..,_,Q,κ,env,lo,exs,s,ρ,W,a,hκ,h,hh=>h.elim
theorem jE {ρ:Rho} {v u:Value} (h:MG v=true) (hv:VR ρ v u):V2 ρ v u:=by
 cases v with
 | tuple vs=>cases h
 | _=>exact hv
theorem iA {ρ:Rho}: ∀{l m:List Value},l.all MG=true→EF (VR ρ) l m→EF (V2 ρ) l m
 | [],[],_,_=>trivial
 | x::xs,y::ys,h,hv=>by
   simp only [List.all_cons,Bool.and_eq_true] at h
   exact ⟨jE h.1 hv.1,iA h.2 hv.2⟩
 | [],_::_,_,h=>h.elim
 | _::_,[],_,h=>h.elim
def ZQ (tmps:Array Value):ResultVar→Sem Value
 | .tmp t=>pure (tmps.getD t undef)
 | .cell a t=>do loadVar t (←asAddr (tmps.getD a undef))
theorem SK {ρ:Rho} {s:St} {W:World} {env:Env} {a:Act} {v:Value} {s':St} (hR:Rel C ρ s W) (hE:VRE ρ env a): ∀(rs:List ResultVar) (acc us:List Value),EF (VR ρ) acc us→K5 C.P rs acc env (fun v' s''=>v'=v∧s''=s') s→
  s'=s∧ ∃ws,(rs.mapM (ZQ a.tmps)).run C.P W= .ok ws W∧ ∃accs,accs.length=acc.length+rs.length∧EF (VR ρ) accs (us++ws)∧(accs.length=1→ ∃x,accs=[x]∧v=x)∧(accs.length≠1→accs.all MG=true∧v= .tuple accs.toArray)
 | [],[],us,hr,h=>⟨h.2.2.symm,[],by simp,[],rfl,by simpa using hr,fun h1=>by simp at h1,fun _=>⟨h.1,h.2.1.symm⟩⟩
 | [],[x],us,hr,h=>⟨h.2.symm,[],by simp,[x],rfl,by simpa using hr,fun _=>⟨x,rfl,h.1.symm⟩,fun h1=>by simp at h1⟩
 | [],x::y::l,us,hr,h=>⟨h.2.2.symm,[],by simp,x::y::l,rfl,by simpa using hr,fun h1=>by simp at h1,fun _=>⟨h.1,h.2.1.symm⟩⟩
 | .tmp t::r,acc,us,hr,h=>by
   obtain ⟨h1,ws,h2,accs,h3,h4,h5⟩:=SK hR hE r (acc++[lk env t]) (us++[a.tmps.getD t undef]) (HB hr ⟨hE t,trivial⟩) h
   refine ⟨h1,a.tmps.getD t undef::ws, ?_,accs,by simp at h3 ⊢;omega,by simpa using h4,h5⟩
   rw [List.mapM_cons]
   simp only [ZQ,Sem.run_bind,Sem.run_pure,Result.andThen_ok,h2]
 | .cell b t::r,acc,us,hr,h=>by
   simp only [K5] at h
   cases hs:szT C.P t with
   | none=>rw [hs] at h;exact h.elim
   | some sz=>
     cases ha:WQ C.P t with
     | none=>rw [hs,ha] at h;exact h.elim
     | some ag=>
       rw [hs,ha] at h
       obtain ⟨x,s1,hg,h⟩:=h
       obtain ⟨rfl,w,hw,hrun⟩:=mS (B0:=C.w0.heap.size) (W:=W) hs ha hg (hE b) fun x p ob _ h1 h2=>hR.con x p ob h1 h2
       obtain ⟨h1,ws,h2,accs,h3,h4,h5⟩:=SK hR hE r (acc++[x]) (us++[w]) (HB hr ⟨hw,trivial⟩) h
       refine ⟨h1,w::ws, ?_,accs,by simp at h3 ⊢;omega,by simpa using h4,h5⟩
       have hadd: ∃q,a.tmps.getD b undef= .pointer (some q):=by
        unfold ld at hg
        split at hg
        ·rename_i hx
         have:=hE b
         rw [hx] at this
         obtain ⟨p,_,hp⟩:=ZW this
         exact ⟨_,hp⟩
        ·cases hg
       obtain ⟨q,hq⟩:=hadd
       rw [hq] at hrun
       rw [List.mapM_cons]
       have hrun':(loadVar t q).run C.P W= .ok w W:=by simpa [Instr.loadAt,Instr.sureAddr] using hrun
       simp only [ZQ,Sem.run_bind,hq,asAddr,Sem.run_pure,Result.andThen_ok,hrun',h2]
theorem WU {ρ:Rho} {s:St} {W:World} {env:Env} {a:Act} {v:Value} {s':St} {fn:Func} (hR:Rel C ρ s W) (hE:VRE ρ env a) (h:K5 C.P fn.results.toList [] env (fun v' s''=>v'=v∧s''=s') s):
  s'=s∧ ∃u,(results fn a.tmps).run C.P W= .ok u W∧VR ρ v u:=by
 obtain ⟨h1,ws,h2,accs,h3,h4,h5,h6⟩:=SK hR hE fn.results.toList [] [] trivial h
 refine ⟨h1,if h:ws.toArray.size=1 then ws.toArray[0] else .tuple ws.toArray, ?_, ?_⟩
 ·have e:results fn a.tmps=(fn.results.mapM (ZQ a.tmps)>>=fun vs=>pure (if h:vs.size=1 then vs[0] else .tuple vs)):=by
   unfold results
   congr 1
  rw [e,Sem.run_bind,Array.mapM_eq_mapM_toList,Sem.run_map,h2]
  rfl
 ·have hl:=CZ h4
  simp only [List.nil_append] at h4 hl
  by_cases hw:ws.length=1
  ·obtain ⟨x,rfl,rfl⟩:=h5 (by omega)
   obtain ⟨w,rfl⟩: ∃w,ws=[w]:=by
    cases ws with
    | nil=>simp at hw
    | cons w r=>cases r with
      | nil=>exact ⟨w,rfl⟩
      | cons _ _=>simp at hw
   exact h4.1
  ·obtain ⟨h7,rfl⟩:=h6 (by omega)
   rw [dif_neg (by simpa using hw)]
   exact ⟨ws.toArray,rfl,by simpa using iA h7 h4⟩
theorem bX {ρ:Rho}: ∀(args vs:List Value) (i:Nat) (rest:List Value) (pre:List Value),pre.length=i→EF (VR ρ) args vs→VRE ρ (TI i args) ⟨(pre++vs++rest).toArray,[]⟩
 | [],[],i,rest,pre,_,_=>fun t=>RG _ _
 | x::xs,y::ys,i,rest,pre,hp,h=>fun t=>by
   simp only [TI,NA]
   by_cases ht:i=t
   ·subst ht
    rw [if_pos rfl]
    have:((pre++y::ys++rest).toArray).getD i undef=y:=by
     subst hp
     simp
    rw [this];exact h.1
   ·rw [if_neg ht]
    have:=bX xs ys (i+1) rest (pre++[y]) (by simp [hp]) h.2 t
    simpa using this
 | [],_::_,_,_,_,_,h=>h.elim
 | _::_,[],_,_,_,_,h=>h.elim
end
theorem kC {C:Ctx} {f:FuncId} {fn:Func} {args:List Value} {K:Value→Q} {s:St} {T:Q} (an:List (Nat×List Nat)) (hf:C.P.funcs[f]? =some fn) (hm:C.P.follows .mixedOrders=true)
  (hn:eE fn args.length=true) (he:sR C an fn args K=T) (h:T s):cl C f args K s:=by
 rw [←he] at h
 unfold sR at h
 unfold eE at hn
 cases hb:fn.body with
 | none=>rw [hb] at h;exact h.elim
 | some c=>
   rw [hb] at h hn
   simp only [Bool.and_eq_true] at hn
   obtain ⟨e,env',s1,hle,h1,h2⟩:=F5 c _ _ _ _ s h
   have hfin: ∃v,K5 C.P fn.results.toList [] env' (fun v' s''=>v'=v∧s''=s1) s1∧K v s1∧(e= .nor∨e= .rt):=by
    have key:K5 C.P fn.results.toList [] env' K s1→ ∃v,K5 C.P fn.results.toList [] env' (fun v' s''=>v'=v∧s''=s1) s1∧K v s1:=by
     intro hq
     obtain ⟨v,s2,hn2,hv,hr⟩:=YH (C:=C) fn.results.toList [] env' K s1 hq
     have hq2:=hr (fun v' s''=>v'=v∧s''=s2) ⟨rfl,rfl⟩
     have hs2:s2=s1:=by
      have hE0:VRE (fun _=>none) [] ⟨#[],[]⟩:=fun t=>trivial
      clear hr hv hn2 hq
      revert hq2
      generalize fn.results.toList=rs
      generalize ([]:List Value)=acc
      induction rs generalizing acc with
      | nil=>
        intro hq2
        cases acc with
        | nil=>exact hq2.2.2.symm
        | cons x l=>cases l with
          | nil=>exact hq2.2.symm
          | cons y l=>exact hq2.2.2.symm
      | cons r rs ih=>
        intro hq2
        cases r with
        | tmp t=>exact ih _ hq2
        | cell b t=>
          simp only [K5] at hq2
          cases hs:szT C.P t with
          | none=>rw [hs] at hq2;exact hq2.elim
          | some sz=>
            cases ha:WQ C.P t with
            | none=>rw [hs,ha] at hq2;exact hq2.elim
            | some ag=>
              rw [hs,ha] at hq2
              obtain ⟨x,s3,hg,hq2⟩:=hq2
              have:=Y1 hg
              subst this
              exact ih _ hq2
     subst hs2
     exact ⟨v,hq2,hv⟩
    cases e with
    | nor=>obtain ⟨v,hv1,hv2⟩:=key h1;exact ⟨v,hv1,hv2, .inl rfl⟩
    | ext i=>exact h1.elim
    | rt=>obtain ⟨v,hv1,hv2⟩:=key h1;exact ⟨v,hv1,hv2, .inr rfl⟩
   obtain ⟨v,hv,hK,he'⟩:=hfin
   refine ⟨v,s1,⟨hle,fun ρ W vs hfree hR hargs=> ?_⟩,hK⟩
   have hex:=h2 (fun e1 env1 s2=>(e1= .nor∨e1= .rt)∧s2=s1∧K5 C.P fn.results.toList [] env1 (fun v' s''=>v'=v∧s''=s1) s2) ⟨he',rfl,hv⟩
   have hvl:vs.length≤fn.ntmps:=by rw [←CZ hargs];exact Nat.le_of_ble_eq_true hn.1
   refine calls_of_wp hf hb (GO (B:=⟨fn.ntmps,s1.n,ρ,s,W⟩) hm c hn.2 _ _ _ _ _ s ρ W _ (fun e=> ?_) hex ⟨hR, ?_, ?_,rfl,Way.refl,hfree⟩)
   ·have fin: ∀env2 s2 ρ2 W2 a2,K5 C.P fn.results.toList [] env2 (fun v' s''=>v'=v∧s''=s1) s2→PL C ⟨fn.ntmps,s1.n,ρ,s,W⟩ ρ2 s2 W2 env2 a2→
      a2.defers=[]∧ ∃u,(results fn a2.tmps).run C.P W2= .ok u W2∧ ∃ρ',Way ρ s W ρ' s1 W2∧Rel C ρ' s1 W2∧VR ρ' v u:=by
     intro env2 s2 ρ2 W2 a2 hq hh
     obtain ⟨rfl,u,hu,hvr⟩:=WU hh.rel hh.vre hq
     exact ⟨hh.defers,u,hu,ρ2,hh.way,hh.rel,hvr⟩
    cases e with
    | nor=>exact ⟨fun env2 s2 hq=>by rw [hq.2.1];exact Nat.le_refl _,fun env2 s2 ρ2 W2 a2 hq hh=>fin env2 s2 ρ2 W2 a2 hq.2.2 hh⟩
    | ext i=>exact ⟨fun env2 s2 hq=>(by rcases hq.1 with h | h <;> cases h),fun env2 s2 ρ2 W2 a2 hq hh=>(by rcases hq.1 with h | h <;> cases h)⟩
    | rt=>exact ⟨fun env2 s2 hq=>by rw [hq.2.1];exact Nat.le_refl _,fun env2 s2 ρ2 W2 a2 hq hh=>fin env2 s2 ρ2 W2 a2 hq.2.2 hh⟩
   ·have:=bX args vs 0 (List.replicate (fn.ntmps-vs.length) undef) [] rfl hargs
    have e:vs.toArray++Array.replicate (fn.ntmps-vs.toArray.size) undef=([]++vs++List.replicate (fn.ntmps-vs.length) undef).toArray:=by
     apply Array.toList_inj.1;simp
    rw [e]
    exact this
   ·simp;omega
end Go.Proofs.Ytklmcfpgdfibnaa.Eng
namespace Go.Proofs.Ytklmcfpgdfibnaa.Eng
open Go Go.RowKit
set_option linter.unusedVariables false
section
variable {K:Value→Q} {s s':St} {v:Value}
end
structure Ext (s s':St):Prop where
 n:s.n≤s'.n
 get: ∀h,h<s.n→s'.get h=s.get h
theorem Ext.refl (s:St):Ext s s:=⟨Nat.le_refl _,fun _ _=>rfl⟩
theorem Ext.trans {a b c:St} (h:Ext a b) (k:Ext b c):Ext a c:=⟨Nat.le_trans h.n k.n,fun x hx=>(k.get x (Nat.lt_of_lt_of_le hx h.n)).trans (h.get x hx)⟩
theorem Ext.push (s:St) (ob:Ob):Ext s (s.push ob):=⟨by rw [St.G3];omega,fun h hh=>by rw [St.II,if_neg (by omega)]⟩
theorem Ext.some {s s':St} (h:Ext s s') {x:Nat} {ob:Ob} (hx:s.get x=some ob):s'.get x=some ob:=by rw [h.get x (St.FK hx)];exact hx
theorem YA {s:St} {h o:Nat} {ob:Ob} {c:Value} (hg:s.get h=some ob) (hc:ob.cells[o]? =some c):ld false 1 (pt h o) s=some (c,s):=by
 have hlt:o<ob.cells.length:=(List.getElem?_eq_some_iff.1 hc).1
 have hcs:(ob.cells.drop o).take 1=[c]:=by
  rw [List.take_one,List.head?_drop,hc];rfl
 simp only [ld,pt,hg,Option.bind_some,JP,if_pos (show o+1≤ob.cells.length by omega),hcs]
theorem nB {s:St} {h o sz:Nat} {ob:Ob} {cs:List Value} (hg:s.get h=some ob) (hl:o+sz≤ob.cells.length) (hc:(ob.cells.drop o).take sz=cs):ld true sz (pt h o) s=some (.agg cs.toArray,s):=by
 simp only [ld,pt,hg,Option.bind_some,JP,if_pos hl,hc]
def Sl (s:St) (sz:Nat) (v:Value) (n:Nat) (cells:List Value):Prop:=
 cells.length=n*sz∧((v=nl∧n=0)∨ ∃h off ob,v=sl h off n sz∧s.get h=some ob∧off+n*sz≤ob.cells.length∧(ob.cells.drop off).take (n*sz)=cells)
theorem Sl.ext {s s':St} {sz n:Nat} {v:Value} {cells:List Value} (h:Sl s sz v n cells) (he:Ext s s'):Sl s' sz v n cells:=by
 obtain ⟨h1,h2⟩:=h
 refine ⟨h1,h2.imp id ?_⟩
 rintro ⟨x,off,ob,h3,h4,h5⟩
 exact ⟨x,off,ob,h3,he.some h4,h5⟩
theorem Sl.nil (s:St) (sz:Nat):Sl s sz nl 0 []:=⟨by simp, .inl ⟨rfl,rfl⟩⟩
theorem Sl.len {s:St} {sz n:Nat} {v:Value} {cells:List Value} (h:Sl s sz v n cells):lnL v=some (.int .i64 n):=by
 rcases h.2 with ⟨rfl,rfl⟩ | ⟨x,off,ob,rfl,_⟩ <;> rfl
theorem Sl.at {s:St} {sz n:Nat} {v:Value} {cells:List Value} (h:Sl s sz v n cells) {i:Nat} (hi:i<n): ∃x off ob,(∀k,ia sz v (.int k (i:Int))=some (pt x (off+i*sz)))∧s.get x=some ob∧off+n*sz≤ob.cells.length∧ ∀f,f<sz→ob.cells[off+i*sz+f]? =cells[i*sz+f]? :=by
 rcases h.2 with ⟨rfl,rfl⟩ | ⟨x,off,ob,rfl,h1,h2,h3⟩
 ·omega
 ·refine ⟨x,off,ob,fun k=> ?_,h1,h2,fun f hf=> ?_⟩
  ·have:(0:Int)≤(i:Int)∧(i:Int)<(n:Int):=by omega
   simp only [ia,sl,this,and_self,if_true,Int.toNat_natCast]
  ·have hb:i*sz+f<n*sz:=by
    have:(i+1)*sz≤n*sz:=Nat.mul_le_mul_right _ hi
    rw [Nat.add_mul] at this;omega
   rw [←h3,List.getElem?_take_of_lt hb,List.getElem?_drop]
   congr 1;omega
def Rd {α:Type} (s:St) (sz:Nat) (R:α→List Value→Prop) (v:Value) (xs:List α):Prop:=
 ∃cells,Sl s sz v xs.length cells∧ ∀(i:Nat) x,xs[i]? =some x→R x ((cells.drop (i*sz)).take sz)
theorem Rd.ext {α:Type} {s s':St} {sz:Nat} {R R':α→List Value→Prop} {v:Value} {xs:List α} (h:Rd s sz R v xs) (he:Ext s s') (hr: ∀x cs,R x cs→R' x cs):Rd s' sz R' v xs:=
 let ⟨cells,h1,h2⟩:=h;⟨cells,h1.ext he,fun i x hx=>hr _ _ (h2 i x hx)⟩
theorem Rd.len {α:Type} {s:St} {sz:Nat} {R:α→List Value→Prop} {v:Value} {xs:List α} (h:Rd s sz R v xs):lnL v=some (.int .i64 xs.length):=h.choose_spec.1.len
theorem Rd.at {α:Type} {s:St} {sz:Nat} {R:α→List Value→Prop} {v:Value} {xs:List α} (h:Rd s sz R v xs) {i:Nat} {x:α} (hx:xs[i]? =some x): ∃b o ob cs,(∀k,ia sz v (.int k (i:Int))=some (pt b o))∧s.get b=some ob∧R x cs∧cs.length=sz∧o+sz≤ob.cells.length∧(ob.cells.drop o).take sz=cs∧ ∀(f:Nat) c,cs[f]? =some c→ob.cells[o+f]? =some c:=by
 obtain ⟨cells,h1,h2⟩:=h
 have hi:i<xs.length:=(List.getElem?_eq_some_iff.1 hx).1
 obtain ⟨b,off,ob,g1,g2,g3,g4⟩:=h1.at hi
 have hle:i*sz+sz≤xs.length*sz:=by
  have:(i+1)*sz≤xs.length*sz:=Nat.mul_le_mul_right _ hi
  rw [Nat.add_mul] at this;omega
 have hcl:((cells.drop (i*sz)).take sz).length=sz:=by rw [List.length_take,List.length_drop,h1.1];omega
 have hsame:(ob.cells.drop (off+i*sz)).take sz=(cells.drop (i*sz)).take sz:=by
  apply List.ext_getElem?
  intro f
  by_cases hf:f<sz
  ·rw [List.getElem?_take_of_lt hf,List.getElem?_take_of_lt hf,List.getElem?_drop,List.getElem?_drop,g4 f hf]
  ·rw [List.getElem?_eq_none (by rw [List.length_take];omega),List.getElem?_eq_none (by rw [List.length_take];omega)]
 refine ⟨b,off+i*sz,ob,_,g1,g2,h2 i x hx,hcl,by omega,hsame,fun f c hc=> ?_⟩
 have hf:f<sz:=by rw [←hcl];exact (List.getElem?_eq_some_iff.1 hc).1
 rw [g4 f hf]
 rwa [List.getElem?_take_of_lt hf,List.getElem?_drop] at hc
def sI (s:St) (v:Value) (xs:List Int):Prop:=Rd s 1 (fun x cs=>cs=[.int .i64 x]) v xs
def rX (s:St) (v:Value) (xs:List ByteArray):Prop:=Rd s 1 (fun x cs=>cs=[.string x]) v xs
theorem sI.ext {s s':St} {v:Value} {xs:List Int} (h:sI s v xs) (he:Ext s s'):sI s' v xs:=Rd.ext h he fun _ _ h=>h
theorem rX.ext {s s':St} {v:Value} {xs:List ByteArray} (h:rX s v xs) (he:Ext s s'):rX s' v xs:=Rd.ext h he fun _ _ h=>h
end Go.Proofs.Ytklmcfpgdfibnaa.Eng
namespace Go.Proofs.Ytklmcfpgdfibnaa.Eng
open Go Go.RowKit
set_option linter.unusedVariables false
set_option linter.unusedSimpArgs false
structure Laid (C:Ctx) (ρ:Rho) (s:St) (ρ':Rho) (s':St):Prop where
 ext:Ext s s'
 sub:Sub ρ ρ'
 rel:Rel C ρ' s' C.w0
 top: ∀h,s'.n≤h→ρ' h=none
theorem Laid.trans {C:Ctx} {ρ ρ1 ρ2:Rho} {s s1 s2:St} (h:Laid C ρ s ρ1 s1) (k:Laid C ρ1 s1 ρ2 s2):Laid C ρ s ρ2 s2:=⟨h.ext.trans k.ext,h.sub.trans k.sub,k.rel,k.top⟩
structure Kind (α:Type) where
 sz:Nat
 K:World→α→List Value→Prop
 E:St→α→List Value→Prop
 K_len: ∀{w x cs},K w x cs→cs.length=sz
 E_ext: ∀{s s' x cs},Ext s s'→E s x cs→E s' x cs
 lay: ∀{C ρ s x cs},Rel C ρ s C.w0→(∀h,s.n≤h→ρ h=none)→K C.w0 x cs→ ∃ρ' s' es,Laid C ρ s ρ' s'∧EF (CR ρ') es cs∧E s' x es
theorem Laid.refl {C:Ctx} {ρ:Rho} {s:St} (h:Rel C ρ s C.w0) (ht: ∀h,s.n≤h→ρ h=none):Laid C ρ s ρ s:=⟨Ext.refl s,Sub.refl ρ,h,ht⟩
def tM (k:IntKind):Kind Int where
 sz:=1
 K:=fun _ x cs=>cs=[.int k x]
 E:=fun _ x cs=>cs=[.int k x]
 K_len:=fun h=>by subst h;rfl
 E_ext:=fun _ h=>h
 lay:=fun hr ht hk=>⟨_,_,_,Laid.refl hr ht,by subst hk;exact ⟨rfl,trivial⟩,rfl⟩
def rE {α:Type} (d:Kind α) (w:World) (A:Option Addr) (xs:List α):Prop:=
 xs≠[]→ ∃ad,A=some ad∧ ∀(j:Nat) x,xs[j]? =some x→ ∃c,c.length=d.sz∧d.K w x c∧ ∀(i:Nat) u,c[i]? =some u→w.cell? (ad.add (j*d.sz+i))=some u
theorem cB {α:Type} (d:Kind α) {C:Ctx}: ∀(xs:List α) (ρ:Rho) (s:St) (css:List (List Value)),Rel C ρ s C.w0→(∀h,s.n≤h→ρ h=none)→css.length=xs.length→(∀(j:Nat) x c,xs[j]? =some x→css[j]? =some c→d.K C.w0 x c)→
  ∃ρ' s', ∃ess:List (List Value),Laid C ρ s ρ' s'∧ess.length=xs.length∧EF (CR ρ') ess.flatten css.flatten∧(∀(j:Nat) x e,xs[j]? =some x→ess[j]? =some e→e.length=d.sz∧d.E s' x e)
 | [],ρ,s,css,hr,ht,hl,_=>by
   have:css=[]:=List.eq_nil_of_length_eq_zero (by simpa using hl)
   subst this
   exact ⟨ρ,s,[],Laid.refl hr ht,rfl,trivial,fun j x e h=>by simp at h⟩
 | x::xs,ρ,s,[],hr,ht,hl,_=>by simp at hl
 | x::xs,ρ,s,c::css,hr,ht,hl,h=>by
   have hk:=h 0 x c rfl rfl
   obtain ⟨ρ1,s1,e,l1,r1,g1⟩:=d.lay hr ht hk
   obtain ⟨ρ2,s2,ess,l2,hl2,r2,g2⟩:=cB d xs ρ1 s1 css l1.rel l1.top (by simpa using hl) fun j y z hy hz=>h (j+1) y z (by simpa using hy) (by simpa using hz)
   refine ⟨ρ2,s2,e::ess,l1.trans l2,by simp [hl2], ?_,fun j y z hy hz=> ?_⟩
   ·simp only [List.flatten_cons]
    exact HB (PH (fun _ _=>LK l2.sub) r1) r2
   ·cases j with
    | zero=>
      simp at hy hz;subst hy;subst hz
      exact ⟨by rw [CZ r1];exact d.K_len hk,d.E_ext l2.ext g1⟩
    | succ j=>exact g2 j y z (by simpa using hy) (by simpa using hz)
theorem Z5 {sz:Nat}: ∀{css:List (List Value)},(∀c∈css,c.length=sz)→ ∀(i:Nat) u,css.flatten[i]? =some u→ ∃j k c,i=j*sz+k∧k<sz∧css[j]? =some c∧c[k]? =some u
 | [],_,i,u,h=>by simp at h
 | c::css,hl,i,u,h=>by
   have hc:=hl c (by simp)
   simp only [List.flatten_cons] at h
   rcases Nat.lt_or_ge i c.length with h1 | h1
   ·rw [List.getElem?_append_left h1] at h
    exact ⟨0,i,c,by simp,by omega,rfl,h⟩
   ·rw [List.getElem?_append_right h1] at h
    obtain ⟨j,k,c',h2,h3,h4,h5⟩:=Z5 (fun c' hc'=>hl c' (List.mem_cons_of_mem _ hc')) _ u h
    exact ⟨j+1,k,c',by rw [Nat.add_mul];omega,h3,by simpa using h4,h5⟩
theorem h9 {sz:Nat}: ∀{css:List (List Value)},(∀c∈css,c.length=sz)→ ∀(j:Nat) c,css[j]? =some c→(css.flatten.drop (j*sz)).take sz=c
 | [],_,j,c,h=>by simp at h
 | c::css,hl,0,c',h=>by
   simp at h;subst h
   have hc:=hl c (by simp)
   simp only [List.flatten_cons,Nat.zero_mul,List.drop_zero]
   rw [←hc];exact List.take_left
 | c::css,hl,j+1,c',h=>by
   have hc:=hl c (by simp)
   simp only [List.flatten_cons]
   rw [Nat.add_mul,Nat.one_mul,Nat.add_comm, ←hc, ←List.drop_drop,List.drop_left,hc]
   exact h9 (fun c' hc'=>hl c' (List.mem_cons_of_mem _ hc')) j c' (by simpa using h)
theorem OX {sz:Nat}: ∀{css:List (List Value)},(∀c∈css,c.length=sz)→css.flatten.length=css.length*sz
 | [],_=>by simp
 | c::css,hl=>by
   rw [List.flatten_cons,List.length_append,OX fun c' hc'=>hl c' (List.mem_cons_of_mem _ hc'),hl c (by simp),List.length_cons,Nat.add_mul];omega
theorem jJ {α:Type} (d:Kind α) {C:Ctx} {xs:List α} {ρ:Rho} {s:St} {A:Option Addr} {cap:Nat} (hr:Rel C ρ s C.w0) (ht: ∀h,s.n≤h→ρ h=none) (hcap:xs.length≤cap) (hA:rE d C.w0 A xs) (hsz:0<d.sz):
  ∃ρ' s' e,Laid C ρ s ρ' s'∧CR ρ' e (.slice A xs.length cap)∧Rd s' d.sz (d.E s') e xs:=by
 have hcss: ∃ad:Addr,(xs≠[]→A=some ad)∧ ∃css:List (List Value),css.length=xs.length∧(∀(j:Nat) x c,xs[j]? =some x→css[j]? =some c→d.K C.w0 x c)∧
   ∀(j:Nat) c,css[j]? =some c→c.length=d.sz∧ ∀(i:Nat) u,c[i]? =some u→C.w0.cell? (ad.add (j*d.sz+i))=some u:=by
  by_cases h0:xs=[]
  ·subst h0
   exact ⟨default,fun h=>absurd rfl h,[],rfl,fun j x c h=>by simp at h,fun j c h=>by simp at h⟩
  ·obtain ⟨ad,hA1,hA2⟩:=hA h0
   refine ⟨ad,fun _=>hA1, ?_⟩
   have: ∀L,L≤xs.length→ ∃css:List (List Value),css.length=L∧(∀(j:Nat) x c,xs[j]? =some x→css[j]? =some c→d.K C.w0 x c)∧
     ∀(j:Nat) c,css[j]? =some c→c.length=d.sz∧ ∀(i:Nat) u,c[i]? =some u→C.w0.cell? (ad.add (j*d.sz+i))=some u:=by
    intro L
    induction L with
    | zero=>exact fun _=>⟨[],rfl,fun j x c _ h=>by simp at h,fun j c h=>by simp at h⟩
    | succ L ih=>
      intro hL
      obtain ⟨css,h1,h2,h3⟩:=ih (by omega)
      obtain ⟨c,hc1,hc2,hc3⟩:=hA2 L xs[L] (List.getElem?_eq_getElem (by omega))
      have key: ∀(j:Nat) c',(css++[c])[j]? =some c'→(css[j]? =some c')∨(j=L∧c'=c):=by
       intro j c' hj
       rcases Nat.lt_or_ge j css.length with h4 | h4
       ·rw [List.getElem?_append_left h4] at hj;exact .inl hj
       ·rw [List.getElem?_append_right h4] at hj
        have:j-css.length=0:=by
         rcases Nat.eq_zero_or_pos (j-css.length) with h5 | h5
         ·exact h5
         ·rw [List.getElem?_eq_none (by simp;omega)] at hj;cases hj
        rw [this] at hj
        exact .inr ⟨by omega,by simpa using hj.symm⟩
      refine ⟨css++[c],by simp [h1],fun j x c' hx hj=> ?_,fun j c' hj=> ?_⟩
      ·rcases key j c' hj with h4 | ⟨rfl,rfl⟩
       ·exact h2 j x c' hx h4
       ·rw [List.getElem?_eq_getElem (by omega)] at hx
        cases hx;exact hc2
      ·rcases key j c' hj with h4 | ⟨rfl,rfl⟩
       ·exact h3 j c' h4
       ·exact ⟨hc1,hc3⟩
   exact this xs.length (Nat.le_refl _)
 obtain ⟨ad,had,css,hl,hK,hread⟩:=hcss
 obtain ⟨ρ1,s1,ess,l1,hle,hrel,hE⟩:=cB d xs ρ s css hr ht hl hK
 have hcl: ∀c∈css,c.length=d.sz:=fun c hc=>by
  obtain ⟨j,hj,rfl⟩:=List.getElem_of_mem hc
  exact (hread j _ (List.getElem?_eq_getElem hj)).1
 have hel: ∀c∈ess,c.length=d.sz:=fun c hc=>by
  obtain ⟨j,hj,rfl⟩:=List.getElem_of_mem hc
  exact (hE j xs[j] _ (List.getElem?_eq_getElem (by omega)) (List.getElem?_eq_getElem hj)).1
 have hfl:=OX hel
 have hcell: ∀(i:Nat) u,css.flatten[i]? =some u→C.w0.cell? (ad.add i)=some u:=by
  intro i u hu
  obtain ⟨j,k,c,h1,h2,h3,h4⟩:=Z5 hcl i u hu
  rw [h1];exact (hread j c h3).2 k u h4
 have hspot:xs≠[]→ad.spot=none:=by
  intro h0
  have hpos:0<xs.length:=List.length_pos_iff.2 h0
  have hlt:0<css.flatten.length:=by rw [OX hcl,hl];exact Nat.mul_pos hpos hsz
  have:=hcell 0 css.flatten[0] (List.getElem?_eq_getElem hlt)
  simp only [Addr.add,if_true] at this
  unfold World.cell? at this
  split at this
  ·split at this
   ·cases this
   ·rename_i hs;simpa using hs
  ·cases this
 have hfree:=l1.top s1.n (Nat.le_refl _)
 have hsub:=T7 hfree ⟨ad.block,ad.off,0,false⟩
 have hget: ∀k ob,(s1.push ⟨ess.flatten,false⟩).get k=some ob→(k=s1.n∧ob=⟨ess.flatten,false⟩)∨(k≠s1.n∧s1.get k=some ob):=fun k ob hk=>by
  rw [St.II] at hk
  by_cases hh:k=s1.n
  ·rw [if_pos hh] at hk;cases hk;exact .inl ⟨hh,rfl⟩
  ·rw [if_neg hh] at hk;exact .inr ⟨hh,hk⟩
 have hexp:=Ext.push s1 ⟨ess.flatten,false⟩
 refine ⟨upd ρ1 s1.n ⟨ad.block,ad.off,0,false⟩,s1.push ⟨ess.flatten,false⟩,sl s1.n 0 xs.length d.sz,⟨l1.ext.trans hexp,l1.sub.trans hsub,⟨fun k p ob hk ho=> ?_,fun k k' p p' ob ob' hk hk' ho ho' hp hp' hb=> ?_,l1.rel.bel⟩,fun k hk=> ?_⟩, ?_, ?_⟩
 ·rcases hget k ob ho with ⟨rfl,rfl⟩ | ⟨hne,ho⟩
  ·rw [DE] at hk;cases hk
   have hread2: ∀(i:Nat) x,ess.flatten[i]? =some x→ ∃u,C.w0.cell? ⟨ad.block,ad.off+i,none⟩=some u∧CR ρ1 x u:=by
    intro i x hx
    obtain ⟨u,hu,hr⟩:=IL i x hrel hx
    have hne:xs≠[]:=by
     intro h0
     rw [h0] at hle
     have:ess=[]:=List.eq_nil_of_length_eq_zero (by simpa using hle)
     rw [this] at hx;simp at hx
    have:=hcell i u hu
    have hs:=hspot hne
    obtain ⟨b,o,sp⟩:=ad
    simp only at hs;subst hs
    rw [Addr.add_lit] at this
    exact ⟨u,this,hr⟩
   refine ⟨rfl,fun i x hx=> ?_,fun hh=>(by cases hh),fun _=> ?_⟩
   ·obtain ⟨u,h1,h2⟩:=hread2 i x hx
    exact ⟨u,h1,LK hsub h2⟩
   ·cases hf:ess.flatten with
    | nil=>exact .inl rfl
    | cons x r=>
      right
      obtain ⟨u,h1,_⟩:=hread2 0 x (by rw [hf];rfl)
      unfold World.cell? at h1
      split at h1
      ·rename_i hb;exact (Array.getElem?_eq_some_iff.1 hb).1
      ·cases h1
  ·rw [ET _ _ hne] at hk
   exact SL (l1.rel.con k p ob hk ho) hsub (.inl rfl)
 ·rcases hget k ob ho with ⟨rfl,rfl⟩ | ⟨hne,ho⟩
  ·rw [DE] at hk;cases hk;cases hp
  ·rcases hget k' ob' ho' with ⟨rfl,rfl⟩ | ⟨hne',ho'⟩
   ·rw [DE] at hk';cases hk';cases hp'
   ·rw [ET _ _ hne] at hk
    rw [ET _ _ hne'] at hk'
    exact l1.rel.inj k k' p p' ob ob' hk hk' ho ho' hp hp' hb
 ·rw [St.G3] at hk
  rw [ET _ _ (by omega)];exact l1.top k (by omega)
 ·refine ⟨_,A,cap,DE _ _ _,rfl,hcap,fun hn=> ?_,fun hh=>by cases hh⟩
  have hne:xs≠[]:=fun h0=>hn (by rw [h0];rfl)
  rw [had hne]
  have hs:=hspot hne
  obtain ⟨b,o,sp⟩:=ad
  simp only at hs;subst hs
  rfl
 ·refine ⟨ess.flatten,⟨by rw [hfl,hle], .inr ⟨s1.n,0,⟨ess.flatten,false⟩,rfl,by rw [St.II,if_pos rfl], ?_, ?_⟩⟩,fun i x hx=> ?_⟩
  ·rw [hfl,hle];omega
  ·rw [List.drop_zero, ←hle, ←hfl,List.take_length]
  ·have hi:i<ess.length:=by rw [hle];exact (List.getElem?_eq_some_iff.1 hx).1
   rw [h9 hel i ess[i] (List.getElem?_eq_getElem hi)]
   exact d.E_ext hexp (hE i x _ hx (List.getElem?_eq_getElem hi)).2
def kSl {α:Type} (d:Kind α) (hsz:0<d.sz):Kind (List α) where
 sz:=1
 K:=fun w xs cs=> ∃A cap,cs=[.slice A xs.length cap]∧xs.length≤cap∧rE d w A xs
 E:=fun s xs cs=> ∃v,cs=[v]∧Rd s d.sz (d.E s) v xs
 K_len:=fun ⟨A,cap,h,_⟩=>by rw [h];rfl
 E_ext:=fun he ⟨v,h,hr⟩=>⟨v,h,hr.ext he fun _ _ h=>d.E_ext he h⟩
 lay:=fun hr ht ⟨A,cap,h,hc,hA⟩=>by
  obtain ⟨ρ',s',e,l,hcr,hrd⟩:=jJ d hr ht hc hA hsz
  exact ⟨ρ',s',[e],l,by rw [h];exact ⟨hcr,trivial⟩,e,rfl,hrd⟩
def s0:St:=⟨0,fun _=>none⟩
theorem w9 {C:Ctx}:Rel C (fun _=>none) s0 C.w0:=⟨fun _ _ _ h=>(by cases h),fun _ _ _ _ _ _ h=>(by cases h),Below.refl _ _⟩
end Go.Proofs.Ytklmcfpgdfibnaa.Eng
namespace Go.Proofs.Ytklmcfpgdfibnaa.Open
open Go.ChangeShapes Go.WideShapes Go.RowKit Go.Deep Go.Proofs.Ytklmcfpgdfibnaa.Eng
section
variable {H:Type} {enc:TypeId×Value→H} {P:Program} {w:World} {base:Nat} {spare:Nat→Bool} {held:Bool}
def X1 (enc:TypeId×Value→H) (P:Program) (w:World) (base:Nat) (spare:Nat→Bool) (held:Bool) (t:TypeId) {α:Type} (d:Kind α) (G:α→Prop):Prop:=
 d.sz=P.cellsOf t∧ ∀n cs x,DataW.trod enc P w base spare held n t cs=some x→ ∃a,d.K w a cs∧G a
theorem jU {t:TypeId} {k:IntKind} (ht:P.underlying t=some (.int k)) (hc:P.cellsOf t=1):X1 enc P w base spare held t (tM k) (fun z=>(Lit.int k z).wf=true):=
 ⟨hc.symm,fun n cs x h=>by
  obtain ⟨z,rfl,_,hz⟩:=DataW.trod_int ht h
  exact ⟨z,rfl,hz⟩⟩
theorem Z6 {t e:TypeId} {α:Type} {d:Kind α} {G:α→Prop} (ht:P.underlying t=some (.slice e)) (hc:P.cellsOf t=1) (ho:X1 enc P w base spare held e d G) (hsz:0<d.sz):
  X1 enc P w base spare held t (kSl d hsz) (fun xs=>xs.length≤maxLen∧ ∀x∈xs,G x):=
 ⟨hc.symm,fun n cs x h=>by
  rcases open_slice ht h with ⟨rfl,_⟩ | ⟨a,len,cap,m,k,D,Pl,rfl,_,hl,hm,hmm,_,hx⟩
  ·exact ⟨[],⟨none,0,rfl,Nat.le_refl 0,fun h=>absurd rfl h⟩,Nat.zero_le _,fun x hx=>by simp at hx⟩
  have hlm:len≤m:=by rw [hmm];split <;> omega
  have each: ∀i,i<len→ ∃q:α×List Value,q.2.length=d.sz∧d.K w q.1 q.2∧G q.1∧ ∀j u,q.2[j]? =some u→w.cell? (a.add (i*d.sz+j))=some u:=by
   intro i hi
   obtain ⟨cs',h1,h2⟩:=hx i (by omega)
   obtain ⟨y,hk,hg⟩:=ho.2 _ _ _ h2
   obtain ⟨_,hlen,hcell⟩:=World.cells?_some h1
   refine ⟨(y,cs'),by rw [hlen,ho.1],hk,hg,fun j u hu=> ?_⟩
   have hj:j<cs'.length:=by
    rcases Nat.lt_or_ge j cs'.length with hj | hj
    ·exact hj
    ·rw [List.getElem?_eq_none hj] at hu;cases hu
   have hcj:=hcell j (by omega)
   rw [Go.Deep.add_add] at hcj
   rw [ho.1]
   rw [hcj]
   exact hu
  have: ∀L,L≤len→ ∃xs:List α,xs.length=L∧(∀x∈xs,G x)∧ ∀i y,xs[i]? =some y→ ∃c,c.length=d.sz∧d.K w y c∧ ∀j u,c[j]? =some u→w.cell? (a.add (i*d.sz+j))=some u:=by
   intro L
   induction L with
   | zero=>exact fun _=>⟨[],rfl,fun x hx=>by simp at hx,fun i y hy=>by simp at hy⟩
   | succ L ih=>
     intro hL
     obtain ⟨xs,hxl,hxg,hxc⟩:=ih (by omega)
     obtain ⟨q,q1,q2,q3,q4⟩:=each L (by omega)
     refine ⟨xs++[q.1],by simp [hxl], ?_, ?_⟩
     ·intro x hx
      rcases List.mem_append.1 hx with hx | hx
      ·exact hxg x hx
      ·rw [List.mem_singleton.1 hx];exact q3
     ·intro i y hy
      rcases Nat.lt_or_ge i xs.length with hi | hi
      ·rw [List.getElem?_append_left hi] at hy
       exact hxc i y hy
      ·rw [List.getElem?_append_right hi] at hy
       have hi0:i-xs.length=0:=by
        rcases Nat.eq_zero_or_pos (i-xs.length) with h0 | h0
        ·exact h0
        ·rw [List.getElem?_eq_none (by simp;omega)] at hy;cases hy
       rw [hi0] at hy
       have hy':q.1=y:=by simpa using hy
       subst hy'
       have:i=L:=by omega
       subst this
       exact ⟨q.2,q1,q2,q4⟩
  obtain ⟨xs,hxl,hxg,hxc⟩:=this len (Nat.le_refl _)
  exact ⟨xs,⟨some a,cap,by rw [hxl],by rw [hxl];exact hl,fun _=>⟨a,rfl,hxc⟩⟩,by rw [hxl];omega,hxg⟩⟩
theorem oC {t:TypeId} {α:Type} {d:Kind α} {G:α→Prop} {v:Value} {dd:DataW H} {ps:List MemPlace} (ho:X1 enc P w base spare held t d G) (h:DataW.Trod enc P w base spare held t v dd ps): ∃a,d.K w a v.cells.toList∧G a:=by
 obtain ⟨n,hn⟩:=h
 exact ho.2 _ _ _ hn
theorem jY {v u:Value} (h:v.cells.toList=[u]) (hv: ∀cs,v≠ .agg cs):v=u:=by
 cases v <;> simp_all [Value.cells]
theorem oO {t:TypeId} {α:Type} {d:Kind α} {G:α→Prop} {v:Value} {dd:DataW H} {ps:List MemPlace} (h1:d.sz=1)
  (ho:X1 enc P w base spare held t d G) (hna: ∀cs,v≠ .agg cs) (h:DataW.Trod enc P w base spare held t v dd ps): ∃a,d.K w a [v]∧G a:=by
 obtain ⟨a,ka,ga⟩:=oC ho h
 have hl:=d.K_len ka
 rw [h1] at hl
 obtain ⟨u,hu⟩: ∃u,v.cells.toList=[u]:=by
  match v.cells.toList,hl with
  | [u],_=>exact ⟨u,rfl⟩
 have:=jY hu hna
 subst this
 exact ⟨a,by rw [hu] at ka;exact ka,ga⟩
end
end Go.Proofs.Ytklmcfpgdfibnaa.Open
