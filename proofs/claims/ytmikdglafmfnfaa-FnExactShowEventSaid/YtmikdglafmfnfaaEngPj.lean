/- The pure engine's truth: what lies in memory behind a call. -/
import Derived.Test.YtmikdglafmfnfaaEngPi
namespace Go.Proofs.Ytmikdglafmfnfaa.Eng
open Go Go.RowKit
set_option linter.unusedVariables false
set_option linter.unusedSimpArgs false
set_option linter.constructorNameAsVariable false
theorem nsl_app {c2 : List CS} : ∀ {c1 : List CS}, nsl (c1 ++ c2) = nsl c1 + nsl c2
  | [] => by simp [nsl]
  | .v :: r => by simp only [List.cons_append, nsl]; exact nsl_app
  | .t _ _ :: r => by simp only [List.cons_append, nsl, nsl_app (c1 := r)]; omega
theorem dlOf_app {c2 : List CS} {s2 : List E0} : ∀ {c1 : List CS} {s1 : List E0}, s1.length = nsl c1 → dlOf (c1 ++ c2) (s1 ++ s2) = dlOf c1 s1 ++ dlOf c2 s2
  | [], s1, h => by
    have : s1 = [] := List.eq_nil_of_length_eq_zero h
    subst this; simp [dlOf]
  | .v :: r, s1, h => by simp only [List.cons_append, dlOf]; exact dlOf_app h
  | .t e m :: r, [], h => by simp [nsl] at h
  | .t e m :: r, x :: s1, h => by
    have h' : s1.length = nsl r := by simpa [nsl] using h
    match m with
    | 2 => cases x <;> simp only [List.cons_append, dlOf, dlOf_app h']
    | 0 => simp only [List.cons_append, dlOf, dlOf_app h']
    | 1 => simp only [List.cons_append, dlOf, dlOf_app h']
    | n + 3 => simp only [List.cons_append, dlOf, dlOf_app h']
theorem mlOf_app {c2 : List CS} {s2 : List E0} : ∀ {c1 : List CS} {s1 : List E0}, s1.length = nsl c1 → mlOf (c1 ++ c2) (s1 ++ s2) = mlOf c1 s1 ++ mlOf c2 s2
  | [], s1, h => by
    have : s1 = [] := List.eq_nil_of_length_eq_zero h
    subst this; simp [mlOf]
  | .v :: r, s1, h => by simp only [List.cons_append, mlOf]; exact mlOf_app h
  | .t e m :: r, [], h => by simp [nsl] at h
  | .t e m :: r, x :: s1, h => by
    have h' : s1.length = nsl r := by simpa [nsl] using h
    match m with
    | 1 => simp only [List.cons_append, mlOf, mlOf_app h', List.append_assoc]
    | 0 => simp only [List.cons_append, mlOf, mlOf_app h']
    | n + 2 => simp only [List.cons_append, mlOf, mlOf_app h']
def bidsOf : List (Nat × List CS) → List EV → List Nat
  | (2, _) :: r, .o (.p b _) :: as => b :: bidsOf r as
  | _ :: r, _ :: as => bidsOf r as
  | _, _ => []
def AllV (R : EV → Value → Prop) : List EV → List Value → Prop
  | [], [] => True
  | x :: xs, u :: us => R x u ∧ AllV R xs us
  | _, _ => False
def BR (m : Mst) : List (Nat × List CS) → List EV → List Value → Prop
  | [], [], [] => True
  | (w, _) :: r, e :: es, a :: as => ((w = 2 ∧ ∃ b, e = .o (.p b 0) ∧ a = pt (m.A b).h 0 ∧ (∃ xs, lookO m.ob b = some (.bx xs)) ∧ (m.A b).F = [(m.A b).h]) ∨ w < 2) ∧ BR m r es as
  | _, _, _ => False
theorem muOf_app {c2 : List CS} {s2 : List E0} : ∀ {c1 : List CS} {s1 : List E0}, s1.length = nsl c1 → muOf (c1 ++ c2) (s1 ++ s2) = muOf c1 s1 ++ muOf c2 s2
  | [], s1, h => by
    have : s1 = [] := List.eq_nil_of_length_eq_zero h
    subst this; simp [muOf]
  | .v :: r, s1, h => by simp only [List.cons_append, muOf]; exact muOf_app h
  | .t e m :: r, [], h => by simp [nsl] at h
  | .t e m :: r, x :: s1, h => by
    have h' : s1.length = nsl r := by simpa [nsl] using h
    match m with
    | 0 => simp only [List.cons_append, muOf, muOf_app h']
    | n + 1 => simp only [List.cons_append, muOf, muOf_app h', List.append_assoc]
structure ApOk (ro : List (List T)) (m : Mst) (ps : List (Nat × List CS)) (es : List EV) (as : List Value) (p : Ar) (sv : List Value) (M D : List Nat) : Prop where
  par : ParR m.s ps as p.vs p.cs sv M D
  sl : AllE (E0R ro m) p.sl sv
  mM : ∀ x ∈ M, ∃ k ∈ p.mu, x ∈ (m.A k).F
  dD : ∀ x ∈ D, ∃ k ∈ p.rd, x ∈ (m.A k).F
  nd : p.mu.Nodup → M.Nodup
  mu : ∀ k ∈ p.mu, ∃ o, lookO m.ob k = some o ∧ isOwn o = true
  rd : ∀ k ∈ p.rd, ∃ o, look2 ro m.ob k = some o
  perm : p.mu.Perm (bidsOf ps es ++ (dlOf (csOf ps) p.sl ++ mlOf (csOf ps) p.sl))
  one : p.mu.Nodup → One m M (csOf ps) p.sl sv p.cs
  muI : ∀ k ∈ muOf (csOf ps) p.sl, k ∈ p.mu
  af : AF ro m.ob (csOf ps) p.sl p.cs
  ns : p.sl.length = nsl (csOf ps)
  br : BR m ps es as
theorem argP_ok {B : Bas} {ro : List (List T)} {m : Mst} (hm : Mem B ro m) : ∀ (ps : List (Nat × List CS)) (es : List EV) (as : List Value) (p : Ar), (ps.all fun p => okC p.2) = true → argP ro m.ob ps es = some p → AllV (EVR (E0R ro m)) es as → ∃ sv M D, ApOk ro m ps es as p sv M D
  | [], [], [], p, _, h, _ => by
    simp only [argP, Option.some.injEq] at h; subst h
    exact ⟨[], [], [], by simp only [ParR]; simp, trivial, fun x hx => by simp at hx, fun x hx => by simp at hx, fun _ => List.nodup_nil, fun x hx => by simp at hx, fun x hx => by simp at hx, by simp [dlOf, mlOf, csOf, bidsOf], fun _ => by simp only [csOf, List.map_nil, List.flatten_nil, One], fun k hk => by simp [csOf, muOf] at hk, by simp only [csOf, List.map_nil, List.flatten_nil, AF], rfl, trivial⟩
  | [], e :: es, as, p, _, h, _ => by simp [argP] at h
  | [], [], u :: us, p, _, h, ha => ha.elim
  | (w, k) :: r, [], as, p, _, h, _ => by simp [argP] at h
  | (w, k) :: r, e :: es, [], p, _, h, ha => ha.elim
  | (w, k) :: r, e :: es, a :: as, p, hok, h, ha => by
    simp only [List.all_cons, Bool.and_eq_true] at hok
    simp only [argP, Option.bind_eq_some_iff] at h
    obtain ⟨q, hq, h⟩ := h
    obtain ⟨sv2, M2, D2, hq⟩ := argP_ok hm r es as q hok.2 hq ha.2
    have he := ha.1
    have hsplit : ∀ {p1 : Ar} {sv1 us : List Value} {M1 D1 : List Nat}, ArOk ro m k us p1 sv1 M1 D1 → (p1.mu ++ q.mu).Perm ((dlOf (csOf ((w, k) :: r)) (p1.sl ++ q.sl) ++ mlOf (csOf ((w, k) :: r)) (p1.sl ++ q.sl)) ++ bidsOf r es) := by
      intro p1 sv1 us M1 D1 h1
      have hl : p1.sl.length = nsl k := h1.len
      have hc : csOf ((w, k) :: r) = k ++ csOf r := by simp [csOf]
      rw [hc, dlOf_app hl, mlOf_app hl]
      refine (h1.perm.append hq.perm).trans ?_
      generalize dlOf k p1.sl = a1; generalize mlOf k p1.sl = b1; generalize dlOf (csOf r) q.sl = a2; generalize mlOf (csOf r) q.sl = b2; generalize bidsOf r es = c
      apply List.perm_iff_count.2
      intro x
      simp only [List.count_append]; omega
    have hall : ∀ {p1 : Ar} {sv1 us : List Value} {M1 D1 : List Nat}, ArOk ro m k us p1 sv1 M1 D1 → AllE (E0R ro m) (p1.sl ++ q.sl) (sv1 ++ sv2) ∧ (∀ x ∈ D1 ++ D2, ∃ k ∈ p1.rd ++ q.rd, x ∈ (m.A k).F) ∧ (∀ x ∈ M1 ++ M2, ∃ k ∈ p1.mu ++ q.mu, x ∈ (m.A k).F) ∧ ((p1.mu ++ q.mu).Nodup → (M1 ++ M2).Nodup) ∧ (∀ k ∈ p1.mu ++ q.mu, ∃ o, lookO m.ob k = some o ∧ isOwn o = true) ∧ ∀ k ∈ p1.rd ++ q.rd, ∃ o, look2 ro m.ob k = some o := by
      intro p1 sv1 us M1 D1 h1
      refine ⟨AllE_app h1.sl hq.sl, fun x hx => ?_, fun x hx => ?_, fun hnd => ?_, fun k hk => ?_, fun k hk => ?_⟩
      · rcases List.mem_append.1 hx with hx | hx
        · obtain ⟨k, hk, hky⟩ := h1.dD x hx; exact ⟨k, by simp [hk], hky⟩
        · obtain ⟨k, hk, hky⟩ := hq.dD x hx; exact ⟨k, by simp [hk], hky⟩
      · rcases List.mem_append.1 hx with hx | hx
        · obtain ⟨k, hk, hky⟩ := h1.mM x hx; exact ⟨k, by simp [hk], hky⟩
        · obtain ⟨k, hk, hky⟩ := hq.mM x hx; exact ⟨k, by simp [hk], hky⟩
      · have nd := List.nodup_append.1 hnd
        refine List.nodup_append.2 ⟨h1.nd nd.1, hq.nd nd.2.1, fun y hy z hz he => ?_⟩
        subst he
        exact rows_apart hm h1.mu (fun k hk => by obtain ⟨o, ho, _⟩ := hq.mu k hk; exact ⟨o, look2_own ho⟩) (fun k hk hk2 => nd.2.2 k hk k hk2 rfl) (h1.mM y hy) (hq.mM y hz)
      · rcases List.mem_append.1 hk with hk | hk
        · exact h1.mu k hk
        · exact hq.mu k hk
      · rcases List.mem_append.1 hk with hk | hk
        · exact h1.rd k hk
        · exact hq.rd k hk
    have hone : ∀ {p1 : Ar} {sv1 us : List Value} {M1 D1 : List Nat} {M : List Nat}, ArOk ro m k us p1 sv1 M1 D1 → (p1.mu ++ q.mu).Nodup → (∀ y ∈ M, y ∈ M1 ∨ y ∈ M2 ∨ ∀ k ∈ p1.mu ++ q.mu, y ∉ (m.A k).F) → One m M (csOf ((w, k) :: r)) (p1.sl ++ q.sl) (sv1 ++ sv2) (p1.cs ++ q.cs) := by
      intro p1 sv1 us M1 D1 M h1 hnd hM
      have nd := List.nodup_append.1 hnd
      have hap : ∀ {y : Nat}, (∃ k ∈ p1.mu, y ∈ (m.A k).F) → (∃ k ∈ q.mu, y ∈ (m.A k).F) → False := fun a b => rows_apart hm h1.mu (fun k hk => by obtain ⟨o, ho, _⟩ := hq.mu k hk; exact ⟨o, look2_own ho⟩) (fun k hk hk2 => nd.2.2 k hk k hk2 rfl) a b
      have hc : csOf ((w, k) :: r) = k ++ csOf r := by simp [csOf]
      rw [hc]
      obtain ⟨l1, l2⟩ := CellsR_ns h1.cells
      refine One.app ((hq.one nd.2.1).mono fun y hy => ?_) ((h1.one nd.1).mono fun y hy => ?_) h1.len l2 l1
      · rcases hM y hy with h2 | h2 | h2
        · exact .inr fun k hk hyk => hap (h1.mM y h2) ⟨k, hq.muI k hk, hyk⟩
        · exact .inl h2
        · exact .inr fun k hk => h2 k (by simp [hq.muI k hk])
      · rcases hM y hy with h2 | h2 | h2
        · exact .inl h2
        · exact .inr fun k hk hyk => hap ⟨k, by rw [h1.muE]; exact hk, hyk⟩ (hq.mM y h2)
        · exact .inr fun k hk => h2 k (by rw [← h1.muE] at hk; simp [hk])
    have hmuI : ∀ {p1 : Ar} {sv1 us : List Value} {M1 D1 : List Nat}, ArOk ro m k us p1 sv1 M1 D1 → ∀ j ∈ muOf (csOf ((w, k) :: r)) (p1.sl ++ q.sl), j ∈ p1.mu ++ q.mu := by
      intro p1 sv1 us M1 D1 h1 j hj
      have hc : csOf ((w, k) :: r) = k ++ csOf r := by simp [csOf]
      rw [hc, muOf_app h1.len] at hj
      rcases List.mem_append.1 hj with hj | hj
      · rw [h1.muE]; simp [hj]
      · simp [hq.muI j hj]
    have haf : ∀ {p1 : Ar} {sv1 us : List Value} {M1 D1 : List Nat}, ArOk ro m k us p1 sv1 M1 D1 → AF ro m.ob (csOf ((w, k) :: r)) (p1.sl ++ q.sl) (p1.cs ++ q.cs) ∧ (p1.sl ++ q.sl).length = nsl (csOf ((w, k) :: r)) := by
      intro p1 sv1 us M1 D1 h1
      have hc : csOf ((w, k) :: r) = k ++ csOf r := by simp [csOf]
      rw [hc]
      obtain ⟨l1, _⟩ := CellsR_ns h1.cells
      refine ⟨AF.app hq.af h1.af h1.len l1, ?_⟩
      rw [List.length_append, h1.len, hq.ns]
      exact nsl_app.symm
    split at h
    · rename_i x
      simp only [Option.map_eq_some_iff] at h
      obtain ⟨p1, h1, rfl⟩ := h
      obtain ⟨sv1, M1, D1, h1⟩ := argC_ok hm k [x] [a] p1 hok.1 h1 ⟨he, trivial⟩
      obtain ⟨a1, a2, a3, a4, a5, a6⟩ := hall h1
      refine ⟨sv1 ++ sv2, M1 ++ M2, D1 ++ D2, ?_, a1, a3, a2, a4, a5, a6, ?_, fun hnd => hone h1 hnd fun y hy => (List.mem_append.1 hy).elim .inl fun h => .inr (.inl h), hmuI h1, (haf h1).1, (haf h1).2, ⟨.inr (by omega), hq.br⟩⟩
      · simp only [ParR]
        exact ⟨a, as, [a], _, _, _, _, sv1, sv2, M1, M2, D1, D2, rfl, rfl, rfl, rfl, rfl, h1.cells, hq.par, rfl, rfl⟩
      · refine (hsplit h1).trans ?_
        have : bidsOf ((0, k) :: r) (EV.o x :: es) = bidsOf r es := by simp [bidsOf]
        rw [this]; exact List.perm_append_comm
    · rename_i xs
      simp only [Option.map_eq_some_iff] at h
      obtain ⟨p1, h1, rfl⟩ := h
      obtain ⟨us, rfl, hx⟩ := he
      obtain ⟨sv1, M1, D1, h1⟩ := argC_ok hm k xs us p1 hok.1 h1 hx
      obtain ⟨a1, a2, a3, a4, a5, a6⟩ := hall h1
      refine ⟨sv1 ++ sv2, M1 ++ M2, D1 ++ D2, ?_, a1, a3, a2, a4, a5, a6, ?_, fun hnd => hone h1 hnd fun y hy => (List.mem_append.1 hy).elim .inl fun h => .inr (.inl h), hmuI h1, (haf h1).1, (haf h1).2, ⟨.inr (by omega), hq.br⟩⟩
      · simp only [ParR]
        exact ⟨_, as, us, _, _, _, _, sv1, sv2, M1, M2, D1, D2, rfl, rfl, rfl, rfl, rfl, h1.cells, hq.par, rfl, rfl⟩
      · refine (hsplit h1).trans ?_
        have : bidsOf ((1, k) :: r) (EV.g xs :: es) = bidsOf r es := by simp [bidsOf]
        rw [this]; exact List.perm_append_comm
    · rename_i b
      split at h
      · rename_i xs hl
        simp only [Option.map_eq_some_iff] at h
        obtain ⟨p1, h1, rfl⟩ := h
        have hl2 := look2_own (ro := ro) hl
        obtain ⟨hF, us, hg, hx⟩ := hm.obr b _ hl2
        have hpt := he.2.2 xs hl2
        subst hpt
        obtain ⟨sv1, M1, D1, h1⟩ := argC_ok hm k xs us p1 hok.1 h1 hx
        obtain ⟨a1, a2, a3, a4, a5, a6⟩ := hall h1
        have hb : ∀ j ∈ [b], ∃ o, lookO m.ob j = some o ∧ isOwn o = true := fun j hj => by rw [List.mem_singleton.1 hj]; exact ⟨_, hl, rfl⟩
        refine ⟨sv1 ++ sv2, (m.A b).h :: (M1 ++ M2), D1 ++ D2, ?_, a1, fun x hx => ?_, a2, fun hnd => ?_, fun j hj => ?_, a6, ?_, fun hnd => hone h1 (List.nodup_cons.1 hnd).2 fun y hy => ?_, fun j hj => by have := hmuI h1 j hj; simp at this ⊢; exact .inr this, (haf h1).1, (haf h1).2, ⟨.inl ⟨rfl, b, rfl, rfl, ⟨xs, hl⟩, hF⟩, hq.br⟩⟩
        · simp only [ParR]
          exact ⟨_, as, us, _, _, _, _, sv1, sv2, M1, M2, D1, D2, rfl, rfl, rfl, rfl, rfl, h1.cells, hq.par, (m.A b).h, rfl, hg, rfl⟩
        · rcases List.mem_cons.1 hx with rfl | hx
          · exact ⟨b, by simp, by rw [hF]; simp⟩
          · obtain ⟨j, hj, hy⟩ := a3 x hx; exact ⟨j, by simp at hj ⊢; exact .inr hj, hy⟩
        · have nd := List.nodup_cons.1 hnd
          refine List.nodup_cons.2 ⟨fun hx => ?_, a4 nd.2⟩
          exact rows_apart hm hb (fun k hk => by obtain ⟨o, ho, _⟩ := a5 k hk; exact ⟨o, look2_own ho⟩) (fun j hj hj2 => nd.1 (by rw [← List.mem_singleton.1 hj]; exact hj2)) ⟨b, by simp, by rw [hF]; simp⟩ (a3 _ hx)
        · rcases List.mem_cons.1 hj with rfl | hj
          · exact ⟨_, hl, rfl⟩
          · exact a5 j hj
        · have : bidsOf ((2, k) :: r) (EV.o (E0.p b 0) :: es) = b :: bidsOf r es := by simp [bidsOf]
          rw [this]
          exact ((hsplit h1).trans List.perm_append_comm).cons b
        · rcases List.mem_cons.1 hy with rfl | hy
          · right; right
            exact fun j hj hyk => rows_apart hm hb (fun k hk => by obtain ⟨o, ho, _⟩ := a5 k hk; exact ⟨o, look2_own ho⟩) (fun i hi hi2 => (List.nodup_cons.1 hnd).1 (by rw [← List.mem_singleton.1 hi]; exact hi2)) ⟨b, by simp, by rw [hF]; simp⟩ ⟨j, hj, hyk⟩
          · exact (List.mem_append.1 hy).elim .inl fun h => .inr (.inl h)
      · cases h
    · cases h
/-! ### What a call leaves -/
structure En where
  k : Nat
  o : Ob2
  a : Asg
  P : List Nat
def LOk (s : St) (c : List T) (a : Asg) : Prop := (a.nil = true ∧ c = [] ∧ a.F = []) ∨ (a.nil = false ∧ Win s true c a.h a.b a.F)
def Fits (ro : List (List T)) (m' : Mst) (x : En) : Prop := x.k < m'.nk ∧ m'.A x.k = x.a ∧ ∀ c, x.o = .ls true c → look2 ro m'.ob x.k = some (.ls true c)
def EnOk (s : St) (sl : List E0) (sv : List Value) (Ls : List En) (x : En) : Prop := (∃ c, x.o = .ls true c ∧ LOk s c x.a) ∨
  (∃ xs us, x.o = .bx xs ∧ x.a.F = [x.a.h] ∧ s.get x.a.h = some ⟨us, true⟩ ∧ ∀ ro m', (∀ y ∈ Ls, Fits ro m' y) → AllE (E0R ro m') sl sv → AllE (E0R ro m') xs us)
theorem EnOk.mono {s : St} {sl : List E0} {sv : List Value} {L L' : List En} {x : En} (h : EnOk s sl sv L x) (hs : ∀ y ∈ L, y ∈ L') : EnOk s sl sv L' x := by
  rcases h with h | ⟨xs, us, h1, h2, h3, h4⟩
  · exact .inl h
  · exact .inr ⟨xs, us, h1, h2, h3, fun ro m' hf ha => h4 ro m' (fun y hy => hf y (hs y hy)) ha⟩
def findA (A : Nat → Asg) : List En → Nat → Asg
  | [], k => A k
  | x :: r, k => if x.k = k then x.a else findA A r k
theorem findA_in {A : Nat → Asg} : ∀ {L : List En} {x : En}, (L.map (·.k)).Nodup → x ∈ L → findA A L x.k = x.a
  | y :: r, x, hnd, hx => by
    simp only [List.map_cons, List.nodup_cons] at hnd
    simp only [findA]
    rcases List.mem_cons.1 hx with rfl | hx
    · rw [if_pos rfl]
    · rw [if_neg (fun he => hnd.1 (List.mem_map.2 ⟨x, hx, he.symm⟩)), findA_in hnd.2 hx]
theorem findA_out {A : Nat → Asg} : ∀ {L : List En} {k : Nat}, (∀ x ∈ L, x.k ≠ k) → findA A L k = A k
  | [], k, _ => rfl
  | y :: r, k, h => by
    simp only [findA]
    rw [if_neg (h y (by simp)), findA_out fun x hx => h x (by simp [hx])]
theorem flat_disj {L : List En} (h : ((L.map (·.P)).flatten).Nodup) : ∀ {x y : En}, x ∈ L → y ∈ L → x.k ≠ y.k → ∀ z ∈ x.P, z ∉ y.P := by
  induction L with
  | nil => intro x y hx; simp at hx
  | cons w r ih =>
    intro x y hx hy hne z hz hz'
    simp only [List.map_cons, List.flatten_cons, List.nodup_append] at h
    have hin : ∀ {v : En}, v ∈ r → z ∈ v.P → z ∈ (r.map (·.P)).flatten := fun hv hzv => List.mem_flatten.2 ⟨_, List.mem_map.2 ⟨_, hv, rfl⟩, hzv⟩
    rcases List.mem_cons.1 hx with hx1 | hx1
    · rcases List.mem_cons.1 hy with hy1 | hy1
      · exact hne (by rw [hx1, hy1])
      · subst hx1; exact h.2.2 z hz z (hin hy1 hz') rfl
    · rcases List.mem_cons.1 hy with hy1 | hy1
      · subst hy1; exact h.2.2 z hz' z (hin hx1 hz) rfl
      · exact ih h.2.1 hx1 hy1 hne z hz hz'
theorem killE_weak {ro : List (List T)} {m : Mst} {kl : List Nat} {x : E0} {u : Value} (h : E0R ro m x u) : E0R ro m (killE kl x) u := Kp.e0 Kp.refl h
structure CallHyp (B : Bas) (ro : List (List T)) (m : Mst) (s' : St) (M mu : List Nat) (obF : Obs) (nkF : Nat) (L : List En) (sl : List E0) (sv : List Value) : Prop where
  n : m.s.n ≤ s'.n
  nk : m.nk ≤ nkF
  fr : ∀ h, h < m.s.n → h ∉ M → s'.get h = m.s.get h
  own : ∀ k ∈ mu, ∃ o, lookO m.ob k = some o ∧ isOwn o = true
  mM : ∀ x ∈ M, ∃ k ∈ mu, x ∈ (m.A k).F
  kok : KOk ro obF nkF
  keys : (L.map (·.k)).Nodup
  look : ∀ x ∈ L, look2 ro obF x.k = some (killB mu x.o)
  gone : ∀ k ∈ mu, (∀ x ∈ L, x.k ≠ k) → look2 ro obF k = none
  rest : ∀ k, k ∉ mu → (∀ x ∈ L, x.k ≠ k) → look2 ro obF k = (look2 ro m.ob k).map (killB mu)
  ids : ∀ x ∈ L, (x.k ∈ mu ∧ match x.o with
    | .bx _ => (∃ xs, look2 ro m.ob x.k = some (.bx xs)) ∧ x.a.h = (m.A x.k).h
    | .ls _ c' => ∃ own cs, look2 ro m.ob x.k = some (.ls own cs) ∧ c'.length = cs.length ∧ x.a.nil = (m.A x.k).nil ∧ x.a.h = (m.A x.k).h ∧ x.a.b = (m.A x.k).b) ∨ (m.nk ≤ x.k ∧ x.k < nkF)
  nd : ∀ x ∈ L, x.a.F.Nodup
  rows : ∀ x ∈ L, ∀ y ∈ x.a.F, y ∈ x.P ∨ (y ∈ (m.A x.k).F ∧ y ∉ M ∧ x.k ∈ mu)
  part : ((L.map (·.P)).flatten).Nodup
  from_ : ∀ x ∈ L, ∀ y ∈ x.P, y ∈ M ∨ m.s.n ≤ y
  ok : ∀ x ∈ L, EnOk s' sl sv L x
  sl : AllE (fun x u => ∃ y, x = killE mu y ∧ E0R ro m y u) sl sv
theorem call_mem {B : Bas} {ro : List (List T)} {m : Mst} {s' : St} {M mu : List Nat} {obF : Obs} {nkF : Nat} {L : List En} {sl : List E0} {sv : List Value} (hm : Mem B ro m) (h : CallHyp B ro m s' M mu obF nkF L sl sv) :
    Mem B ro ⟨s', obF, nkF, findA m.A L⟩ ∧ Kp ro m ⟨s', obF, nkF, findA m.A L⟩ mu ∧ (∀ x ∈ L, Fits ro ⟨s', obF, nkF, findA m.A L⟩ x) ∧ AllE (E0R ro ⟨s', obF, nkF, findA m.A L⟩) sl sv ∧ (∀ k, k < ro.length → findA m.A L k = m.A k) := by
  have hmro : ∀ k ∈ mu, ro.length ≤ k ∧ k < m.nk := fun k hk => by
    obtain ⟨o, ho, _⟩ := h.own k hk; exact hm.kok.lt _ (lookO_mem ho)
  have hkeyU : ∀ k, k ∉ mu → (∃ o, look2 ro m.ob k = some o) → ∀ x ∈ L, x.k ≠ k := by
    intro k hk ⟨o, ho⟩ x hx he
    rcases h.ids x hx with ⟨h1, _⟩ | ⟨h1, _⟩
    · exact hk (he ▸ h1)
    · have := look2_lt hm.kok ho; omega
  have hnotU : ∀ k o', look2 ro obF k = some o' → ¬ (k ∉ mu ∧ ∃ o, look2 ro m.ob k = some o) → ∃ x ∈ L, x.k = k ∧ o' = killB mu x.o := by
    intro k o' ho hu
    by_cases hx : ∃ x ∈ L, x.k = k
    · obtain ⟨x, hx, rfl⟩ := hx
      rw [h.look x hx] at ho
      exact ⟨x, hx, rfl, (Option.some.inj ho).symm⟩
    · have hx' : ∀ x ∈ L, x.k ≠ k := fun x hxx he => hx ⟨x, hxx, he⟩
      by_cases hk : k ∈ mu
      · rw [h.gone k hk hx'] at ho; cases ho
      · rw [h.rest k hk hx'] at ho
        cases hq : look2 ro m.ob k with
        | none => rw [hq] at ho; cases ho
        | some o => exact absurd ⟨hk, o, hq⟩ hu
  have hmuF : ∀ x ∈ L, x.k ∈ mu → ∃ o, look2 ro m.ob x.k = some o ∧ isOwn o = true := fun x _ hk => by
    obtain ⟨o, ho, how⟩ := h.own x.k hk; exact ⟨o, look2_own ho, how⟩
  have hst : Step B ro m ⟨s', obF, nkF, findA m.A L⟩ mu (fun k => k ∉ mu ∧ ∃ o, look2 ro m.ob k = some o) := by
    refine ⟨h.n, h.nk, h.kok, fun k hu => ?_, fun y hy hx => h.fr y hy fun hyM => ?_, fun k hk hu => ?_, fun k hk hu hq => ?_, fun k o' ho hu => ?_, fun k k' o o' hne ho ho' hu hu' y hy hy' => ?_⟩
    · obtain ⟨hk, o, ho⟩ := hu
      have hx := hkeyU k hk ⟨o, ho⟩
      exact ⟨o, ho, by rw [h.rest k hk hx, ho]; rfl, findA_out hx⟩
    · obtain ⟨k, hk, hky⟩ := h.mM y hyM
      obtain ⟨o, ho, how⟩ := h.own k hk
      exact hx k o (look2_own ho) (fun hu => hu.1 hk) how hky
    · intro o' ho
      obtain ⟨x, hx, rfl, rfl⟩ := hnotU k o' ho hu
      have hA := findA_in (A := m.A) h.keys hx
      rcases h.ids x hx with ⟨hmu, hid⟩ | ⟨hge, _⟩
      · cases hxo : x.o with
        | bx xs =>
          rw [hxo] at hid
          exact ⟨hid.1, by show (findA m.A L x.k).h = _; rw [hA]; exact hid.2⟩
        | ls own c' =>
          rw [hxo] at hid
          obtain ⟨own, cs, h1, h2, h3, h4, h5⟩ := hid
          exact ⟨own, cs, h1, h2, by show (findA m.A L x.k).nil = _; rw [hA]; exact h3, by show (findA m.A L x.k).h = _; rw [hA]; exact h4, by show (findA m.A L x.k).b = _; rw [hA]; exact h5⟩
      · omega
    · intro own cs own' cs' hl hl'
      obtain ⟨x, hx, rfl, _⟩ := hnotU k _ hl' hu
      rcases h.ids x hx with ⟨hmu, _⟩ | ⟨hge, _⟩
      · have := List.any_eq_false.1 hq x.k hmu; simp at this
      · omega
    · obtain ⟨x, hx, rfl, rfl⟩ := hnotU k o' ho hu
      have hA := findA_in (A := m.A) h.keys hx
      simp only [hA]
      refine ⟨h.nd x hx, fun y hy => ?_⟩
      rcases h.rows x hx y hy with hy | ⟨hy, _, hk⟩
      · rcases h.from_ x hx y hy with hM | hge
        · obtain ⟨k, hk, hky⟩ := h.mM y hM
          obtain ⟨o, ho, how⟩ := h.own k hk
          exact .inl ⟨k, o, look2_own ho, fun hu => hu.1 hk, how, hky⟩
        · exact .inr hge
      · obtain ⟨o, ho, how⟩ := hmuF x hx hk
        exact .inl ⟨x.k, o, ho, fun hu => hu.1 hk, how, hy⟩
    · obtain ⟨x, hx, rfl, rfl⟩ := hnotU k o ho hu
      obtain ⟨z, hz, rfl, rfl⟩ := hnotU k' o' ho' hu'
      simp only [findA_in (A := m.A) h.keys hx] at hy
      simp only [findA_in (A := m.A) h.keys hz] at hy'
      rcases h.rows x hx y hy with h1 | ⟨h1, h1M, h1k⟩
      · rcases h.rows z hz y hy' with h2 | ⟨h2, h2M, h2k⟩
        · exact flat_disj h.part hx hz hne y h1 h2
        · obtain ⟨o, ho, _⟩ := hmuF z hz h2k
          rcases h.from_ x hx y h1 with h3 | h3
          · exact h2M h3
          · have := (hm.obr _ _ ho).lt y h2; omega
      · obtain ⟨o, ho, how⟩ := hmuF x hx h1k
        rcases h.rows z hz y hy' with h2 | ⟨h2, h2M, h2k⟩
        · rcases h.from_ z hz y h2 with h3 | h3
          · exact h1M h3
          · have := (hm.obr _ _ ho).lt y h1; omega
        · obtain ⟨o2, ho2, _⟩ := hmuF z hz h2k
          exact hm.dis x.k z.k o o2 hne ho ho2 how y h1 h2
  have hkp := hst.kp hm
  have hfit : ∀ x ∈ L, Fits ro ⟨s', obF, nkF, findA m.A L⟩ x := fun x hx => by
    refine ⟨?_, findA_in h.keys hx, fun c hc => by rw [h.look x hx, hc]; rfl⟩
    rcases h.ids x hx with ⟨hmu, _⟩ | ⟨_, hlt⟩
    · exact Nat.lt_of_lt_of_le (hmro _ hmu).2 h.nk
    · exact hlt
  have hsl : AllE (E0R ro ⟨s', obF, nkF, findA m.A L⟩) sl sv := by
    have := AllE_map (f := fun x => x) (R' := E0R ro ⟨s', obF, nkF, findA m.A L⟩) (fun x u hx => by obtain ⟨y, rfl, hy⟩ := hx; exact hkp.e0 hy) h.sl
    rwa [show (fun x : E0 => x) = id from rfl, List.map_id] at this
  refine ⟨hst.mem hm fun k o' ho hu => ?_, hkp, hfit, hsl, fun k hk => findA_out fun x hx he => ?_⟩
  · obtain ⟨x, hx, rfl, rfl⟩ := hnotU k o' ho hu
    have hA := findA_in (A := m.A) h.keys hx
    rcases h.ok x hx with ⟨c, hc, hok⟩ | ⟨xs, us, hxo, hF, hg, hall⟩
    · rw [hc]
      show ObR ro _ x.k (.ls true c)
      rcases hok with ⟨h1, h2, h3⟩ | ⟨h1, h2⟩
      · exact .inl ⟨by simp only [hA]; exact h1, h2, by simp only [hA]; exact h3⟩
      · exact .inr ⟨by simp only [hA]; exact h1, by simp only [hA]; exact h2⟩
    · rw [hxo]
      refine ⟨by simp only [hA]; exact hF, us, by simp only [hA]; exact hg, ?_⟩
      exact AllE_map (f := killE mu) (fun x u hx => killE_weak hx) (hall ro _ hfit hsl)
  · rcases h.ids x hx with ⟨hmu, _⟩ | ⟨hge, _⟩
    · have := (hmro _ hmu).1; omega
    · have := hm.kok.ro; omega
end Go.Proofs.Ytmikdglafmfnfaa.Eng
