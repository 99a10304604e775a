/- The pure engine's truth: operations that change no row, and new rows. -/
import Derived.Test.YtmikdglafmfnfaaEngPc
import Derived.Test.YtmikdglafmfnfaaEngG
namespace Go.Proofs.Ytmikdglafmfnfaa.Eng
open Go Go.RowKit
set_option linter.unusedVariables false
set_option linter.unusedSimpArgs false
/-- What an operation brings about. -/
structure Out (C : Ctx) (B : Bas) (ro : List (List T)) (m : Mst) (aff kl : List Nat) (st : Stp) (v : Value) (e : EV) (m' : Mst) : Prop where
  goes : stpGoes C st m.s v m'.s
  mem : Mem B ro m'
  kp : Kp ro m m' kl
  ev : EVR (E0R ro m') e v
  afr : ∀ k o, look2 ro m.ob k = some o → aff.any (Nat.beq k) = false → ∀ h ∈ (m.A k).F, m'.s.get h = m.s.get h
  n : m.s.n ≤ m'.s.n
  agr : ∀ k, k < ro.length → m'.A k = m.A k
def R2S (C : Ctx) (B : Bas) (ro : List (List T)) (m : Mst) (st : Stp) : R2 → Prop
  | .ev e => ∃ v, Out C B ro m [] [] st v e m
  | .st aff ob nk e => ∃ v s' A', Out C B ro m aff [] st v e ⟨s', ob, nk, A'⟩
  | .wd w mk => (∀ x y, mk x = .o (.v y) → y = x) ∧ ∀ K : Value → Prop, w K → ∃ x v s', K x ∧ Out C B ro m [] [] st v (mk x) ⟨s', m.ob, m.nk, m.A⟩
  | .fr aff kl w => ∀ K : Obs → Nat → EV → Prop, w K → ∃ ob nk e v s' A', K ob nk e ∧ Out C B ro m aff kl st v e ⟨s', ob, nk, A'⟩
theorem Kp.refl {ro : List (List T)} {m : Mst} {kl : List Nat} : Kp ro m m kl := by
  refine ⟨Nat.le_refl _, fun k _ o' ho => ?_, fun k _ _ own cs own' cs' h1 h2 => ?_⟩
  · cases o' with
    | bx xs => exact ⟨⟨xs, ho⟩, rfl⟩
    | ls own cs => exact ⟨own, cs, ho, rfl, rfl, rfl, rfl⟩
  · rw [h1] at h2; cases h2; exact ⟨fun pre ds h3 => ⟨ds, h3, rfl⟩, fun _ pre ds hb _ h4 => h4⟩
theorem Out.same {C : Ctx} {B : Bas} {ro : List (List T)} {m : Mst} {st : Stp} {v : Value} {e : EV} (hm : Mem B ro m) (hg : stpGoes C st m.s v m.s) (he : EVR (E0R ro m) e v) : Out C B ro m [] [] st v e m :=
  ⟨hg, hm, Kp.refl, he, fun _ _ _ _ _ _ => rfl, Nat.le_refl _, fun _ _ => rfl⟩
/-- A plain value of an operation that is no more than a value. -/
theorem R2S.pure {C : Ctx} {B : Bas} {ro : List (List T)} {m : Mst} {r r' : Option Value} (hm : Mem B ro m) (hr : r' = r) : R2S C B ro m (.pure r') (.wd (prP r) val1) := by
  subst hr
  refine ⟨fun x y h => by cases h; rfl, ?_⟩
  rintro K ⟨v, h1, h2, h3⟩
  exact ⟨v, v, m.s, h3, Out.same hm ⟨h1, rfl⟩ ⟨rfl, h2⟩⟩
/-! ### Reading a place -/
def AvOk (env1 : Env) (av : List (Nat × Bool)) : Prop := ∀ g w, mem2 av g w = true → lk env1 g = .bool w
theorem cE0_ok {ro : List (List T)} {m : Mst} {v : Value} (h : constC v = true) : E0R ro m (cE0 v) v := by
  cases v <;> try (simp [constC] at h)
  · exact ⟨rfl, rfl⟩
  · exact ⟨rfl, rfl⟩
  · exact ⟨rfl, rfl⟩
  · trivial
  · rename_i a n c
    cases a with
    | some a => simp [constC] at h
    | none =>
      cases n with
      | succ n => simp [constC] at h
      | zero => cases c with
        | succ c => simp [constC] at h
        | zero => rfl
theorem AllE_consts {ro : List (List T)} {m : Mst} : ∀ {l : List Value}, l.all constC = true → AllE (E0R ro m) (l.map cE0) l
  | [], _ => trivial
  | v :: l, h => by
    simp only [List.all_cons, Bool.and_eq_true] at h
    exact ⟨cE0_ok h.1, AllE_consts h.2⟩
theorem constE_ok {ro : List (List T)} {m : Mst} (v : Value) : EVR (E0R ro m) (constE v) (constV v) := by
  cases v <;> try (first | exact ⟨rfl, rfl⟩ | trivial)
  · rename_i a n c
    cases a with
    | some a => trivial
    | none => cases n with
      | succ n => trivial
      | zero => cases c with
        | succ c => trivial
        | zero => rfl
  · rename_i cs
    simp only [constE, constV]
    cases h : cs.toList.all constC with
    | true => simp only [if_true]; exact ⟨cs.toList, rfl, AllE_consts h⟩
    | false => trivial
theorem dng_ok {ro : List (List T)} {m : Mst} {x : EV} {u : Value} (h : ∀ a, x = .o (.q a) → u = a) : EVR (E0R ro m) (dng x) u := by
  cases x with
  | o x => cases x <;> first | exact h _ rfl | trivial
  | g xs => trivial
  | u ys => trivial
theorem tk_ok {ro : List (List T)} {m : Mst} {env1 : Env} {av : List (Nat × Bool)} {x : Option (Nat × Bool) × EV} {u : Value} (ha : AvOk env1 av) (h : TagR (E0R ro m) env1 x u) : EVR (E0R ro m) (tkE av x) u := by
  obtain ⟨tg, e⟩ := x
  cases tg with
  | none => exact h
  | some gw =>
    obtain ⟨g, w⟩ := gw
    simp only [tkE]
    cases hmm : mem2 av g w with
    | true => exact h.1 (ha g w hmm)
    | false => exact dng_ok h.2.1
theorem ev_ok {ro : List (List T)} {m : Mst} {env : Env2} {env1 : Env} {av : List (Nat × Bool)} (hE : EnvR ro m env env1) (ha : AvOk env1 av) (x : Operand) : EVR (E0R ro m) (ev2 av env x) (ev env1 x) := by
  cases x with
  | tmp t =>
    have := hE t
    exact tk_ok ha this
  | const v => exact constE_ok v
  | _ => trivial
theorem val_ok {ro : List (List T)} {m : Mst} {e : EV} {u a : Value} (h : valOf e = some a) (hr : EVR (E0R ro m) e u) : u = a := by
  cases e with
  | o x => cases x <;> simp [valOf] at h
           · subst h; exact hr.1
           · subst h; exact hr
  | g xs => simp [valOf] at h
  | u ys => simp [valOf] at h
theorem ev_val {ro : List (List T)} {m : Mst} {env : Env2} {env1 : Env} {av : List (Nat × Bool)} (hE : EnvR ro m env env1) (ha : AvOk env1 av) {x : Operand} {a : Value} (h : valOf (ev2 av env x) = some a) : ev env1 x = a := val_ok h (ev_ok hE ha x)
theorem plain_one {u : Value} (h : plain u = true) : vok u = true ∧ cellsOf u = [u] := by
  cases u <;> simp [plain] at h <;> exact ⟨rfl, rfl⟩
theorem one_one {u : Value} (h : one u = true) : vok u = true ∧ cellsOf u = [u] := by
  cases u <;> simp [one] at h <;> exact ⟨rfl, rfl⟩
theorem good_one {ro : List (List T)} {m : Mst} {x : E0} {u : Value} (h : good x = true) (hr : E0R ro m x u) : vok u = true ∧ cellsOf u = [u] := by
  cases x <;> simp [good] at h
  · rw [hr.1]; exact plain_one hr.2
  · have : u = nl := hr
    rw [this]; exact ⟨rfl, rfl⟩
  · exact one_one hr.2.1
  · exact one_one hr.2.1
  · exact one_one hr.2.1
  · exact one_one hr.2.1
  · exact one_one hr.2.1
theorem cells_ok {ro : List (List T)} {m : Mst} {e : EV} {u : Value} {xs : List E0} (h : cells2 e = some xs) (hr : EVR (E0R ro m) e u) : vok u = true ∧ AllE (E0R ro m) xs (cellsOf u) := by
  cases e with
  | o x =>
    simp only [cells2] at h
    split at h
    · rename_i hg
      cases h
      obtain ⟨h1, h2⟩ := good_one hg hr
      exact ⟨h1, by rw [h2]; exact ⟨hr, trivial⟩⟩
    · cases h
  | g xs =>
    simp only [cells2] at h
    split at h
    · cases h
      obtain ⟨us, rfl, ha⟩ := hr
      exact ⟨rfl, ha⟩
    · cases h
  | u ys => simp [cells2] at h
/-! ### New rows -/
theorem look2_del {ro : List (List T)} {ob : Obs} {nk k k' : Nat} {o : Ob2} (hk : KOk ro ob nk) (hl : lookO ob k = some o) : look2 ro (delO ob k) k' = if k = k' then none else look2 ro ob k' := by
  by_cases h : k = k'
  · subst h
    rw [if_pos rfl]
    unfold look2
    rw [lookO_del hk.nd]
    have := (hk.lt _ (lookO_mem hl)).1
    cases h2 : rget ro k with
    | none => rfl
    | some o => have := (rget_lt h2).1; simp at *; omega
  · rw [if_neg h]; unfold look2; rw [lookO_del_ne h]
/-- The objects dl of one's own are gone. -/
structure Gone (ro : List (List T)) (ob ob1 : Obs) (nk : Nat) (dl : List Nat) : Prop where
  kok : KOk ro ob1 nk
  look : ∀ k, look2 ro ob1 k = if k ∈ dl then none else look2 ro ob k
  own : ∀ k ∈ dl, ∃ o, look2 ro ob k = some o ∧ isOwn o = true
theorem Gone.nil {ro : List (List T)} {ob : Obs} {nk : Nat} (h : KOk ro ob nk) : Gone ro ob ob nk [] := ⟨h, fun k => by simp, fun k hk => by simp at hk⟩
theorem Gone.del {ro : List (List T)} {ob ob1 : Obs} {nk k : Nat} {dl : List Nat} {o : Ob2} (h : Gone ro ob ob1 nk dl) (hl : lookO ob1 k = some o) (ho : isOwn o = true) : Gone ro ob (delO ob1 k) nk (k :: dl) := by
  have hk2 := look2_own (ro := ro) hl
  rw [h.look] at hk2
  split at hk2
  · cases hk2
  · refine ⟨h.kok.del, fun k' => ?_, fun k' hk' => ?_⟩
    · rw [look2_del h.kok hl, h.look]
      by_cases e : k = k'
      · subst e; simp
      · rw [if_neg e]
        have : k' ∈ k :: dl ↔ k' ∈ dl := by simp [Ne.symm e]
        simp only [this]
    · rcases List.mem_cons.1 hk' with rfl | hk'
      · exact ⟨o, hk2, ho⟩
      · exact h.own k' hk'
def updA (A : Nat → Asg) (k : Nat) (a : Asg) : Nat → Asg := fun x => if x = k then a else A x
theorem updA_ne {A : Nat → Asg} {k x : Nat} {a : Asg} (h : x ≠ k) : updA A k a x = A x := if_neg h
theorem updA_self {A : Nat → Asg} {k : Nat} {a : Asg} : updA A k a k = a := if_pos rfl
/-- A new object, with the rows of those that are gone, or new ones. -/
theorem Step.new {B : Bas} {ro : List (List T)} {m : Mst} {ob1 : Obs} {dl : List Nat} {o : Ob2} {a : Asg} {s' : St} (hm : Mem B ro m) (hg : Gone ro m.ob ob1 m.nk dl) (hn : m.s.n ≤ s'.n)
    (hfr : ∀ h, h < m.s.n → (∀ k ∈ dl, h ∉ (m.A k).F) → s'.get h = m.s.get h) (hnd : a.F.Nodup) (hF : ∀ h ∈ a.F, (∃ k ∈ dl, h ∈ (m.A k).F) ∨ m.s.n ≤ h) :
    Step B ro m ⟨s', (m.nk, o) :: ob1, m.nk + 1, updA m.A m.nk a⟩ [] (fun k => k ∉ dl ∧ ∃ o, look2 ro m.ob k = some o) := by
  have hlt : ∀ k o, look2 ro m.ob k = some o → k < m.nk := fun k o h => look2_lt hm.kok h
  have hnew : ∀ k, look2 ro ((m.nk, o) :: ob1) k = if m.nk = k then some o else if k ∈ dl then none else look2 ro m.ob k := fun k => by rw [look2_cons, hg.look]
  have hnot : ∀ k, k < m.nk → ¬ (k ∉ dl ∧ ∃ o, look2 ro m.ob k = some o) → look2 ro ((m.nk, o) :: ob1) k = none := by
    intro k hk hu
    rw [hnew, if_neg (by omega)]
    by_cases hd : k ∈ dl
    · rw [if_pos hd]
    · rw [if_neg hd]
      cases hl : look2 ro m.ob k with
      | none => rfl
      | some o => exact absurd ⟨hd, o, hl⟩ hu
  have hkey : ∀ k o', look2 ro ((m.nk, o) :: ob1) k = some o' → ¬ (k ∉ dl ∧ ∃ o, look2 ro m.ob k = some o) → k = m.nk := by
    intro k o' hk hu
    rw [hnew] at hk
    by_cases e : m.nk = k
    · exact e.symm
    · rw [if_neg e] at hk
      by_cases hd : k ∈ dl
      · rw [if_pos hd] at hk; cases hk
      · rw [if_neg hd] at hk; exact absurd ⟨hd, _, hk⟩ hu
  refine ⟨hn, Nat.le_succ _, hg.kok.cons, fun k hu => ?_, fun h hh hx => hfr h hh fun k hk => ?_, fun k hk hu => ?_, fun k hk hu _ => ?_, fun k o' ho hu => ?_, fun k k' o1 o2 hne h1 h2 u1 u2 => ?_⟩
  · obtain ⟨hd, o', ho⟩ := hu
    have hk := hlt k o' ho
    refine ⟨o', ho, ?_, updA_ne (by omega)⟩
    rw [hnew, if_neg (by omega), if_neg hd, ho]
    cases o' with
    | bx xs =>
      have hf : killE [] = id := funext fun _ => killE_nil
      simp [killB, hf]
    | ls _ _ => rfl
  · obtain ⟨o', ho, how⟩ := hg.own k hk
    exact hx k o' ho (fun hu => hu.1 hk) how
  · intro o' ho'
    rw [hnot k hk hu] at ho'; cases ho'
  · intro own cs own' cs' _ h2
    rw [hnot k hk hu] at h2; cases h2
  · have hk := hkey k o' ho hu
    subst hk
    simp only [updA_self]
    refine ⟨hnd, fun h hh => ?_⟩
    rcases hF h hh with ⟨k1, hk1, hx⟩ | hx
    · obtain ⟨o1, ho1, how⟩ := hg.own k1 hk1
      exact .inl ⟨k1, o1, ho1, fun hu => hu.1 hk1, how, hx⟩
    · exact .inr hx
  · have a1 := hkey k o1 h1 u1
    have a2 := hkey k' o2 h2 u2
    omega
theorem new_out {C : Ctx} {B : Bas} {ro : List (List T)} {m : Mst} {ob1 : Obs} {dl aff : List Nat} {o : Ob2} {a : Asg} {s' : St} {st : Stp} {v : Value} {e : EV} (hm : Mem B ro m) (hg : Gone ro m.ob ob1 m.nk dl) (hn : m.s.n ≤ s'.n)
    (hfr : ∀ h, h < m.s.n → (∀ k ∈ dl, h ∉ (m.A k).F) → s'.get h = m.s.get h) (hnd : a.F.Nodup) (hF : ∀ h ∈ a.F, (∃ k ∈ dl, h ∈ (m.A k).F) ∨ m.s.n ≤ h)
    (hgo : stpGoes C st m.s v s') (hob : Kp ro m ⟨s', (m.nk, o) :: ob1, m.nk + 1, updA m.A m.nk a⟩ [] → ObR ro ⟨s', (m.nk, o) :: ob1, m.nk + 1, updA m.A m.nk a⟩ m.nk o)
    (hev : EVR (E0R ro ⟨s', (m.nk, o) :: ob1, m.nk + 1, updA m.A m.nk a⟩) e v) (haf : ∀ k o, look2 ro m.ob k = some o → aff.any (Nat.beq k) = false → ∀ h ∈ (m.A k).F, s'.get h = m.s.get h) :
    Out C B ro m aff [] st v e ⟨s', (m.nk, o) :: ob1, m.nk + 1, updA m.A m.nk a⟩ := by
  have hst := Step.new (o := o) (B := B) hm hg hn hfr hnd hF
  have hkp := hst.kp hm
  refine ⟨hgo, hst.mem hm fun k o' ho hu => ?_, hkp, hev, haf, hn, fun k hk => updA_ne (by have := hm.kok.ro; omega)⟩
  have hnew : k = m.nk := by
    have h2 := ho
    simp only [look2_cons, hg.look] at h2
    by_cases e : m.nk = k
    · exact e.symm
    · rw [if_neg e] at h2
      by_cases hd : k ∈ dl
      · rw [if_pos hd] at h2; cases h2
      · rw [if_neg hd] at h2; exact absurd ⟨hd, _, h2⟩ hu
  subst hnew
  have : o' = o := by
    have h2 := ho
    simp only [look2_cons, if_true] at h2
    exact (Option.some.inj h2).symm
  subst this
  exact hob hkp
theorem get_push_lt {s : St} {ob : Ob} {h : Nat} (hh : h < s.n) : (s.push ob).get h = s.get h := by rw [St.get_push, if_neg (by omega)]
theorem get_push_self {s : St} {ob : Ob} : (s.push ob).get s.n = some ob := by rw [St.get_push, if_pos rfl]
/-- A new box. -/
theorem box_out {C : Ctx} {B : Bas} {ro : List (List T)} {m : Mst} {xs : List E0} {us : List Value} {st : Stp} (hm : Mem B ro m) (hx : AllE (E0R ro m) xs us) (hgo : stpGoes C st m.s (pt m.s.n 0) (m.s.push ⟨us, true⟩)) :
    Out C B ro m [] [] st (pt m.s.n 0) (.o (.p m.nk 0)) ⟨m.s.push ⟨us, true⟩, (m.nk, .bx xs) :: m.ob, m.nk + 1, updA m.A m.nk ⟨false, m.s.n, 0, [m.s.n]⟩⟩ := by
  refine new_out hm (Gone.nil hm.kok) (by rw [St.push_n]; omega) (fun h hh _ => get_push_lt hh) (by simp) (fun h hh => .inr (by simp at hh; omega)) hgo (fun hkp => ?_) ?_ (fun k o ho _ h hh => get_push_lt ((hm.obr k o ho).lt h hh))
  · refine ⟨by simp [updA_self], us, by simp only [updA_self]; exact get_push_self, ?_⟩
    have hf : killE [] = id := funext fun _ => killE_nil
    have := AllE_map (f := killE []) (fun x u hx => hkp.e0 hx) hx
    rwa [hf, List.map_id] at this
  · exact ⟨Nat.lt_succ_self _, rfl, fun xs _ => by simp only [updA_self]⟩
end Go.Proofs.Ytmikdglafmfnfaa.Eng
