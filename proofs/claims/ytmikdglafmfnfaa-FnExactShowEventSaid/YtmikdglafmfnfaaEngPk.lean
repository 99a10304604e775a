/- The pure engine's truth: what a call gives back. -/
import Derived.Test.YtmikdglafmfnfaaEngPj
namespace Go.Proofs.Ytmikdglafmfnfaa.Eng
open Go Go.RowKit
set_option linter.unusedVariables false
set_option linter.unusedSimpArgs false
set_option linter.constructorNameAsVariable false
def rowsP (L : List En) : List Nat := (L.map (·.P)).flatten
theorem rowsP_app (L L' : List En) : rowsP (L ++ L') = rowsP L ++ rowsP L' := by simp [rowsP]
def OldOk (ro : List (List T)) (m : Mst) (x : En) : Prop := match x.o with
  | .bx _ => (∃ xs, look2 ro m.ob x.k = some (.bx xs)) ∧ x.a.h = (m.A x.k).h
  | .ls _ c' => ∃ own cs, look2 ro m.ob x.k = some (.ls own cs) ∧ c'.length = cs.length ∧ x.a.nil = (m.A x.k).nil ∧ x.a.h = (m.A x.k).h ∧ x.a.b = (m.A x.k).b
/-- One phase of laying results down. -/
structure Ph (ro : List (List T)) (m : Mst) (s : St) (sl : List E0) (sv : List Value) (Mo : List Nat) (ob : Obs) (nk : Nat) (ob' : Obs) (nk' : Nat) (L : List En) (ids : List Nat) (M : List Nat) : Prop where
  look : ∀ x ∈ L, look2 ro ob' x.k = some x.o
  rest : ∀ k, (∀ x ∈ L, x.k ≠ k) → look2 ro ob' k = look2 ro ob k
  kok : KOk ro ob' nk'
  le : nk ≤ nk'
  keys : (L.map (·.k)).Nodup
  key : ∀ x ∈ L, (x.k ∈ ids ∧ OldOk ro m x) ∨ (nk ≤ x.k ∧ x.k < nk')
  cov : ∀ k ∈ ids, ∃ x ∈ L, x.k = k
  ok : ∀ x ∈ L, EnOk s sl sv L x
  nd : (rowsP L).Nodup → ∀ x ∈ L, x.a.F.Nodup
  rows : ∀ x ∈ L, ∀ y ∈ x.a.F, y ∈ x.P ∨ (y ∈ (m.A x.k).F ∧ y ∉ Mo ∧ x.k ∈ ids)
  perm : (rowsP L).Perm M
  has : ∀ k, (∀ x ∈ L, x.k ≠ k) → lookO ob' k = lookO ob k
theorem Ph.nil {ro : List (List T)} {m : Mst} {s : St} {sl : List E0} {sv : List Value} {Mo : List Nat} {ob : Obs} {nk : Nat} (h : KOk ro ob nk) : Ph ro m s sl sv Mo ob nk ob nk [] [] [] :=
  ⟨fun x hx => by simp at hx, fun k _ => rfl, h, Nat.le_refl _, by simp, fun x hx => by simp at hx, fun x hx => by simp at hx, fun x hx => by simp at hx, fun _ x hx => by simp at hx, fun x hx => by simp at hx, by simp [rowsP], fun k _ => rfl⟩
theorem Ph.comp {ro : List (List T)} {m : Mst} {s : St} {sl : List E0} {sv : List Value} {Mo : List Nat} {ob ob1 ob2 : Obs} {nk nk1 nk2 : Nat} {L1 L2 : List En} {i1 i2 M1 M2 : List Nat} (h1 : Ph ro m s sl sv Mo ob nk ob1 nk1 L1 i1 M1) (h2 : Ph ro m s sl sv Mo ob1 nk1 ob2 nk2 L2 i2 M2)
    (hd : ∀ k ∈ i1, k ∉ i2) (ho1 : ∀ k ∈ i1, k < nk) (ho2 : ∀ k ∈ i2, k < nk) : Ph ro m s sl sv Mo ob nk ob2 nk2 (L1 ++ L2) (i1 ++ i2) (M1 ++ M2) := by
  have hne : ∀ x ∈ L1, ∀ y ∈ L2, x.k ≠ y.k := by
    intro x hx y hy he
    rcases h1.key x hx with ⟨a, _⟩ | ⟨a, b⟩ <;> rcases h2.key y hy with ⟨c, _⟩ | ⟨c, d⟩
    · exact hd _ a (he ▸ c)
    · have := ho1 _ a; have := h1.le; omega
    · have := ho2 _ c; omega
    · omega
  refine ⟨fun x hx => ?_, fun k hk => ?_, h2.kok, Nat.le_trans h1.le h2.le, ?_, fun x hx => ?_, fun k hk => ?_, fun x hx => ?_, fun hnd x hx => ?_, fun x hx y hy => ?_, ?_, fun k hk => ?_⟩
  · rcases List.mem_append.1 hx with hx | hx
    · rw [h2.rest _ fun y hy he => hne x hx y hy he.symm]; exact h1.look x hx
    · exact h2.look x hx
  · rw [h2.rest k fun x hx => hk x (by simp [hx]), h1.rest k fun x hx => hk x (by simp [hx])]
  · rw [List.map_append]
    refine List.nodup_append.2 ⟨h1.keys, h2.keys, fun a ha b hb he => ?_⟩
    obtain ⟨x, hx, rfl⟩ := List.mem_map.1 ha
    obtain ⟨y, hy, rfl⟩ := List.mem_map.1 hb
    exact hne x hx y hy he
  · rcases List.mem_append.1 hx with hx | hx
    · rcases h1.key x hx with ⟨a, b⟩ | ⟨a, b⟩
      · exact .inl ⟨by simp [a], b⟩
      · exact .inr ⟨a, Nat.lt_of_lt_of_le b h2.le⟩
    · rcases h2.key x hx with ⟨a, b⟩ | ⟨a, b⟩
      · exact .inl ⟨by simp [a], b⟩
      · exact .inr ⟨Nat.le_trans h1.le a, b⟩
  · rcases List.mem_append.1 hk with hk | hk
    · obtain ⟨x, hx, he⟩ := h1.cov k hk; exact ⟨x, by simp [hx], he⟩
    · obtain ⟨x, hx, he⟩ := h2.cov k hk; exact ⟨x, by simp [hx], he⟩
  · rcases List.mem_append.1 hx with hx | hx
    · exact (h1.ok x hx).mono fun y hy => by simp [hy]
    · exact (h2.ok x hx).mono fun y hy => by simp [hy]
  · rw [rowsP_app] at hnd
    have nd := List.nodup_append.1 hnd
    rcases List.mem_append.1 hx with hx | hx
    · exact h1.nd nd.1 x hx
    · exact h2.nd nd.2.1 x hx
  · rcases List.mem_append.1 hx with hx | hx
    · rcases h1.rows x hx y hy with a | ⟨a, b, c⟩
      · exact .inl a
      · exact .inr ⟨a, b, by simp [c]⟩
    · rcases h2.rows x hx y hy with a | ⟨a, b, c⟩
      · exact .inl a
      · exact .inr ⟨a, b, by simp [c]⟩
  · rw [rowsP_app]; exact h1.perm.append h2.perm
  · rw [h2.has k fun x hx => hk x (by simp [hx]), h1.has k fun x hx => hk x (by simp [hx])]
/-- A new list. -/
theorem Ph.list {ro : List (List T)} {m : Mst} {s : St} {sl : List E0} {sv : List Value} {Mo : List Nat} {ob : Obs} {nk e : Nat} {c : List T} {u : Value} {F : List Nat} (h : KOk ro ob nk) (ht : TR s true (.l e c) u F) (he : 0 < e) :
    ∃ x : En, x.k = nk ∧ x.o = .ls true c ∧ Ph ro m s sl sv Mo ob nk ((nk, .ls true c) :: ob) (nk + 1) [x] [] F ∧ ∀ ro m', Fits ro m' x → E0R ro m' (.t nk e) u := by
  have mk : ∀ a : Asg, a.F = F → LOk s c a → Ph ro m s sl sv Mo ob nk ((nk, .ls true c) :: ob) (nk + 1) [⟨nk, .ls true c, a, F⟩] [] F := by
    intro a ha hl
    have hlook : ∀ k, look2 ro ((nk, Ob2.ls true c) :: ob) k = if nk = k then some (.ls true c) else look2 ro ob k := fun k => look2_cons
    refine ⟨fun x hx => ?_, fun k hk => ?_, h.cons, by omega, by simp, fun x hx => ?_, fun k hk => by simp at hk, fun x hx => ?_, fun hnd x hx => ?_, fun x hx y hy => ?_, by simp [rowsP], fun k hk => ?_⟩
    · rw [List.mem_singleton.1 hx, hlook, if_pos rfl]
    · rw [hlook, if_neg (show nk ≠ k from hk ⟨nk, .ls true c, a, F⟩ (by simp))]
    · rw [List.mem_singleton.1 hx]; exact .inr ⟨Nat.le_refl _, Nat.lt_succ_self _⟩
    · rw [List.mem_singleton.1 hx]; exact .inl ⟨c, rfl, hl⟩
    · rw [List.mem_singleton.1 hx]; simp only [rowsP, List.map_cons, List.map_nil, List.flatten_cons, List.flatten_nil, List.append_nil] at hnd; rw [ha]; exact hnd
    · rw [List.mem_singleton.1 hx] at hy ⊢; rw [ha] at hy; exact .inl hy
    · rw [lookO_cons, if_neg (show nk ≠ k from hk ⟨nk, .ls true c, a, F⟩ (by simp))]
  rcases TR_l.1 ht with ⟨rfl, rfl, rfl⟩ | ⟨y, b, n, rfl, hlen, hw⟩
  · refine ⟨⟨nk, .ls true [], ⟨true, 0, 0, []⟩, []⟩, rfl, rfl, mk _ rfl (.inl ⟨rfl, rfl, rfl⟩), fun ro m' hf => ⟨hf.1, rfl, he, fun own cs hl => .inl ⟨rfl, ?_⟩⟩⟩
    have := hf.2.1
    simp only at this; rw [this]
  · refine ⟨⟨nk, .ls true c, ⟨false, y, b, F⟩, F⟩, rfl, rfl, mk _ rfl (.inr ⟨rfl, hw⟩), fun ro m' hf => ⟨hf.1, rfl, he, fun own cs hl => .inr ⟨n, ?_, ?_, ?_⟩⟩⟩
    · have := hf.2.1; simp only at this; rw [this]
    · have := hf.2.2 c rfl
      simp only at this; rw [hl] at this; cases this; exact hlen
    · have := hf.2.1; simp only at this; rw [this]
theorem AllE_at {R : E0 → Value → Prop} : ∀ {xs : List E0} {us : List Value} {j : Nat} {u : Value}, AllE R xs us → us[j]? = some u → R (xs.getD j .w) u
  | [], [], j, u, _, h => by simp at h
  | x :: xs, v :: us, 0, u, ha, h => by simp at h; subst h; exact ha.1
  | x :: xs, v :: us, j + 1, u, ha, h => by simpa using AllE_at ha.2 (by simpa using h)
  | [], _ :: _, _, _, ha, _ => ha.elim
  | _ :: _, [], _, _, ha, _ => ha.elim
def Str (vs : List Value) (i : Nat) (v1 : List Value) : Prop := ∀ t x, v1[t]? = some x → nx vs (i + t) = x
def StrC (cs : List (List T)) (j : Nat) (c1 : List (List T)) : Prop := ∀ t x, c1[t]? = some x → nxc cs (j + t) = x
theorem Str.tl {vs : List Value} {i : Nat} {v : Value} {v1 : List Value} (h : Str vs i (v :: v1)) : nx vs i = v ∧ Str vs (i + 1) v1 :=
  ⟨h 0 v rfl, fun t x hx => by rw [show i + 1 + t = i + (t + 1) by omega]; exact h (t + 1) x (by simpa using hx)⟩
theorem StrC.tl {cs : List (List T)} {j : Nat} {c : List T} {c1 : List (List T)} (h : StrC cs j (c :: c1)) : nxc cs j = c ∧ StrC cs (j + 1) c1 :=
  ⟨h 0 c rfl, fun t x hx => by rw [show j + 1 + t = j + (t + 1) by omega]; exact h (t + 1) x (by simpa using hx)⟩
theorem Str.app {vs : List Value} {i : Nat} {a b : List Value} (h : Str vs i (a ++ b)) : Str vs i a ∧ Str vs (i + a.length) b :=
  ⟨fun t x hx => h t x (by rw [List.getElem?_append_left (List.getElem?_eq_some_iff.1 hx).1]; exact hx), fun t x hx => by rw [Nat.add_assoc]; exact h (a.length + t) x (by rw [List.getElem?_append_right (by omega)]; simpa using hx)⟩
theorem StrC.app {cs : List (List T)} {j : Nat} {a b : List (List T)} (h : StrC cs j (a ++ b)) : StrC cs j a ∧ StrC cs (j + a.length) b :=
  ⟨fun t x hx => h t x (by rw [List.getElem?_append_left (List.getElem?_eq_some_iff.1 hx).1]; exact hx), fun t x hx => by rw [Nat.add_assoc]; exact h (a.length + t) x (by rw [List.getElem?_append_right (by omega)]; simpa using hx)⟩
theorem resC_ok {ro : List (List T)} {m : Mst} {s : St} {sl : List E0} {sv : List Value} {Mo : List Nat} {vs : List Value} {cs : List (List T)} : ∀ (rcs : List RC) (us v1 : List Value) (c1 : List (List T)) (M1 : List Nat) (ob : Obs) (nk i j : Nat), okR rcs = true → KOk ro ob nk → ResC s sv rcs us v1 c1 M1 → Str vs i v1 → StrC cs j c1 →
    ∃ L, Ph ro m s sl sv Mo ob nk (resC sl vs cs rcs ob nk i j).ob (resC sl vs cs rcs ob nk i j).nk L [] M1 ∧ (resC sl vs cs rcs ob nk i j).i = i + v1.length ∧ (resC sl vs cs rcs ob nk i j).j = j + c1.length ∧
      ∀ ro m', (∀ x ∈ L, Fits ro m' x) → AllE (E0R ro m') sl sv → AllE (E0R ro m') (resC sl vs cs rcs ob nk i j).xs us
  | [], us, v1, c1, M1, ob, nk, i, j, _, hk, h, _, _ => by
    simp only [ResC] at h
    obtain ⟨rfl, rfl, rfl, rfl⟩ := h
    exact ⟨[], Ph.nil hk, rfl, rfl, fun ro m' _ _ => trivial⟩
  | .v :: r, us, v1, c1, M1, ob, nk, i, j, hok, hk, h, hv, hc => by
    simp only [ResC] at h
    obtain ⟨u, us', vs', rfl, rfl, hp, h⟩ := h
    obtain ⟨hv1, hv2⟩ := hv.tl
    obtain ⟨L, g1, g2, g3, g4⟩ := resC_ok r us' vs' c1 M1 ob nk (i + 1) j hok hk h hv2 hc
    refine ⟨L, g1, ?_, g3, fun ro m' hf ha => ⟨⟨hv1.symm, by rw [hv1]; exact hp⟩, g4 ro m' hf ha⟩⟩
    show (resC sl vs cs r ob nk (i + 1) j).i = _
    rw [g2, List.length_cons]; omega
  | .t e :: r, us, v1, c1, M1, ob, nk, i, j, hok, hk, h, hv, hc => by
    simp only [ResC] at h
    obtain ⟨u, us', c, cs', F, M', rfl, rfl, ht, rfl, h⟩ := h
    simp only [okR, Bool.and_eq_true] at hok
    have he := Nat.le_of_ble_eq_true hok.1
    obtain ⟨hc1, hc2⟩ := hc.tl
    obtain ⟨x, hxk, hxo, hx1, hx2⟩ := Ph.list (m := m) (sl := sl) (sv := sv) (Mo := Mo) hk ht he
    obtain ⟨L, g1, g2, g3, g4⟩ := resC_ok r us' v1 cs' M' ((nk, .ls true c) :: ob) (nk + 1) i (j + 1) hok.2 hk.cons h hv hc2
    refine ⟨[x] ++ L, ?_, ?_, ?_, fun ro m' hf ha => ⟨hx2 ro m' (hf x (by simp)), ?_⟩⟩
    · have := hx1.comp g1 (fun k hk => by simp at hk) (fun k hk => by simp at hk) (fun k hk => by simp at hk)
      simp only [resC, hc1]; exact this
    · simp only [resC, hc1]; exact g2
    · simp only [resC, hc1]; rw [g3, List.length_cons]; omega
    · simp only [hc1]; exact g4 ro m' (fun y hy => hf y (by simp [hy])) ha
  | .a n :: r, us, v1, c1, M1, ob, nk, i, j, hok, hk, h, hv, hc => by
    simp only [ResC] at h
    obtain ⟨u, us', rfl, hu, h⟩ := h
    obtain ⟨L, g1, g2, g3, g4⟩ := resC_ok r us' v1 c1 M1 ob nk i j hok hk h hv hc
    exact ⟨L, g1, g2, g3, fun ro m' hf ha => ⟨AllE_at ha hu, g4 ro m' hf ha⟩⟩
def YsR (R : E0 → Value → Prop) : List (Nat × List E0) → List Value → Prop
  | [], [] => True
  | (0, xs) :: ys, a :: as => AllE R xs [a] ∧ YsR R ys as
  | (1, xs) :: ys, a :: as => (∃ us : List Value, a = .agg us.toArray ∧ AllE R xs us) ∧ YsR R ys as
  | _, _ => False
theorem Ph.box {s : St} {sl : List E0} {sv : List Value} {nk h : Nat} {xs : List E0} {us : List Value} {Lc : List En} (hg : s.get h = some ⟨us, true⟩)
    (hx : ∀ ro m', (∀ y ∈ Lc, Fits ro m' y) → AllE (E0R ro m') sl sv → AllE (E0R ro m') xs us) :
    ∃ x : En, x.k = nk ∧ x.a.h = h ∧ x.P = [h] ∧ x.a.F = [h] ∧ x.o = .bx xs ∧ EnOk s sl sv Lc x :=
  ⟨⟨nk, .bx xs, ⟨false, h, 0, [h]⟩, [h]⟩, rfl, rfl, rfl, rfl, rfl, .inr ⟨xs, us, rfl, rfl, hg, hx⟩⟩
/-- A new box behind its cells. -/
theorem Ph.addBox {ro : List (List T)} {m : Mst} {s : St} {sl : List E0} {sv : List Value} {Mo : List Nat} {ob ob1 : Obs} {nk nk1 : Nat} {L : List En} {M1 : List Nat} {x : En} {xs : List E0} (h : Ph ro m s sl sv Mo ob nk ob1 nk1 L [] M1) (hxk : x.k = nk1) (hxo : x.o = .bx xs) (hP : x.P = [x.a.h]) (hF : x.a.F = [x.a.h]) (hok : EnOk s sl sv L x) :
    Ph ro m s sl sv Mo ob nk ((nk1, .bx xs) :: ob1) (nk1 + 1) (L ++ [x]) [] (M1 ++ [x.a.h]) := by
  have hlt : ∀ y ∈ L, y.k < nk1 := fun y hy => by
    rcases h.key y hy with ⟨a, _⟩ | ⟨_, b⟩
    · simp at a
    · exact b
  refine ⟨fun y hy => ?_, fun k hk => ?_, h.kok.cons, by have := h.le; omega, ?_, fun y hy => ?_, fun k hk => by simp at hk, fun y hy => ?_, fun hnd y hy => ?_, fun y hy z hz => ?_, ?_, fun k hk => ?_⟩
  · rcases List.mem_append.1 hy with hy | hy
    · have := hlt y hy
      rw [look2_cons, if_neg (by omega)]; exact h.look y hy
    · rw [List.mem_singleton.1 hy, look2_cons, if_pos hxk.symm, hxo]
  · rw [look2_cons, if_neg (fun he => hk x (by simp) (by rw [hxk, he])), h.rest k fun y hy => hk y (by simp [hy])]
  · rw [List.map_append]
    refine List.nodup_append.2 ⟨h.keys, by simp, fun a ha b hb he => ?_⟩
    obtain ⟨y, hy, rfl⟩ := List.mem_map.1 ha
    simp at hb
    have := hlt y hy; omega
  · rcases List.mem_append.1 hy with hy | hy
    · rcases h.key y hy with ⟨a, _⟩ | ⟨a, b⟩
      · simp at a
      · exact .inr ⟨a, by omega⟩
    · rw [List.mem_singleton.1 hy]; exact .inr ⟨by rw [hxk]; exact h.le, by omega⟩
  · rcases List.mem_append.1 hy with hy | hy
    · exact (h.ok y hy).mono fun z hz => by simp [hz]
    · rw [List.mem_singleton.1 hy]; exact hok.mono fun z hz => by simp [hz]
  · rw [rowsP_app] at hnd
    rcases List.mem_append.1 hy with hy | hy
    · exact h.nd (List.nodup_append.1 hnd).1 y hy
    · rw [List.mem_singleton.1 hy, hF]; simp
  · rcases List.mem_append.1 hy with hy | hy
    · rcases h.rows y hy z hz with a | ⟨_, _, a⟩
      · exact .inl a
      · simp at a
    · rw [List.mem_singleton.1 hy] at hz ⊢; rw [hF] at hz; rw [hP]; exact .inl hz
  · rw [rowsP_app]
    refine h.perm.append ?_
    simp [rowsP, hP]
  · rw [lookO_cons, if_neg (fun he => hk x (by simp) (by rw [hxk, he])), h.has k fun y hy => hk y (by simp [hy])]
theorem resV_ok {ro : List (List T)} {m : Mst} {s : St} {sl : List E0} {sv : List Value} {Mo : List Nat} {vs : List Value} {cs : List (List T)} : ∀ (rs : List (Nat × List RC)) (as v1 : List Value) (c1 : List (List T)) (M1 : List Nat) (ob : Obs) (nk i j : Nat), (rs.all fun p => okR p.2 && Nat.ble p.1 2) = true → KOk ro ob nk → ResV s sv rs as v1 c1 M1 → Str vs i v1 → StrC cs j c1 →
    ∃ L, Ph ro m s sl sv Mo ob nk (resV sl vs cs rs ob nk i j).ob (resV sl vs cs rs ob nk i j).nk L [] M1 ∧ (resV sl vs cs rs ob nk i j).i = i + v1.length ∧ (resV sl vs cs rs ob nk i j).j = j + c1.length ∧
      ∀ ro m', (∀ x ∈ L, Fits ro m' x) → AllE (E0R ro m') sl sv → YsR (E0R ro m') (resV sl vs cs rs ob nk i j).ys as
  | [], as, v1, c1, M1, ob, nk, i, j, _, hk, h, _, _ => by
    simp only [ResV] at h
    obtain ⟨rfl, rfl, rfl, rfl⟩ := h
    exact ⟨[], Ph.nil hk, rfl, rfl, fun ro m' _ _ => trivial⟩
  | (w, k) :: r, as, v1, c1, M1, ob, nk, i, j, hok, hk, h, hv, hc => by
    simp only [List.all_cons, Bool.and_eq_true] at hok
    simp only [ResV] at h
    obtain ⟨a, as', us, v2, v3, c2, c3, M2, M3, rfl, rfl, rfl, h1, h2, hw⟩ := h
    obtain ⟨L1, g1, g2, g3, g4⟩ := resC_ok (m := m) (sl := sl) (sv := sv) (Mo := Mo) (vs := vs) (cs := cs) k us v2 c2 M2 ob nk i j hok.1.1 hk h1 hv.app.1 hc.app.1
    have hno : ∀ k : Nat, k ∈ ([] : List Nat) → False := fun k hk => by simp at hk
    match w, hok.1.2, hw with
    | 0, _, hw =>
      obtain ⟨rfl, rfl⟩ := hw
      obtain ⟨L2, f1, f2, f3, f4⟩ := resV_ok (m := m) (sl := sl) (sv := sv) (Mo := Mo) (vs := vs) (cs := cs) r as' v3 c3 M3 _ _ (resC sl vs cs k ob nk i j).i (resC sl vs cs k ob nk i j).j hok.2 g1.kok h2 (by rw [g2]; exact hv.app.2) (by rw [g3]; exact hc.app.2)
      refine ⟨L1 ++ L2, ?_, ?_, ?_, fun ro m' hf ha => ⟨g4 ro m' (fun y hy => hf y (by simp [hy])) ha, f4 ro m' (fun y hy => hf y (by simp [hy])) ha⟩⟩
      · exact g1.comp f1 (fun k hk => (hno k hk).elim) (fun k hk => (hno k hk).elim) (fun k hk => (hno k hk).elim)
      · simp only [resV]; rw [f2, g2, List.length_append]; omega
      · simp only [resV]; rw [f3, g3, List.length_append]; omega
    | 1, _, hw =>
      obtain ⟨rfl, rfl⟩ := hw
      obtain ⟨L2, f1, f2, f3, f4⟩ := resV_ok (m := m) (sl := sl) (sv := sv) (Mo := Mo) (vs := vs) (cs := cs) r as' v3 c3 M3 _ _ (resC sl vs cs k ob nk i j).i (resC sl vs cs k ob nk i j).j hok.2 g1.kok h2 (by rw [g2]; exact hv.app.2) (by rw [g3]; exact hc.app.2)
      refine ⟨L1 ++ L2, ?_, ?_, ?_, fun ro m' hf ha => ⟨⟨us, rfl, g4 ro m' (fun y hy => hf y (by simp [hy])) ha⟩, f4 ro m' (fun y hy => hf y (by simp [hy])) ha⟩⟩
      · exact g1.comp f1 (fun k hk => (hno k hk).elim) (fun k hk => (hno k hk).elim) (fun k hk => (hno k hk).elim)
      · simp only [resV]; rw [f2, g2, List.length_append]; omega
      · simp only [resV]; rw [f3, g3, List.length_append]; omega
    | 2, _, hw =>
      obtain ⟨h, rfl, hg, rfl⟩ := hw
      obtain ⟨x, x1, x2, x3, x4, x5, x6⟩ := Ph.box (nk := (resC sl vs cs k ob nk i j).nk) (sl := sl) (sv := sv) (Lc := L1) hg g4
      have gb := g1.addBox x1 x5 (by rw [x3, x2]) (by rw [x4, x2]) x6
      obtain ⟨L2, f1, f2, f3, f4⟩ := resV_ok (m := m) (sl := sl) (sv := sv) (Mo := Mo) (vs := vs) (cs := cs) r as' v3 c3 M3 _ _ (resC sl vs cs k ob nk i j).i (resC sl vs cs k ob nk i j).j hok.2 gb.kok h2 (by rw [g2]; exact hv.app.2) (by rw [g3]; exact hc.app.2)
      have hcomp := gb.comp f1 (fun k hk => (hno k hk).elim) (fun k hk => (hno k hk).elim) (fun k hk => (hno k hk).elim)
      refine ⟨(L1 ++ [x]) ++ L2, ?_, ?_, ?_, fun ro m' hf ha => ⟨⟨⟨?_, rfl, fun ys _ => ?_⟩, trivial⟩, f4 ro m' (fun y hy => hf y (by simp [hy])) ha⟩⟩
      · refine ⟨hcomp.look, hcomp.rest, hcomp.kok, hcomp.le, hcomp.keys, hcomp.key, hcomp.cov, hcomp.ok, hcomp.nd, hcomp.rows, hcomp.perm.trans ?_, hcomp.has⟩
        rw [x2]
        apply List.perm_iff_count.2
        intro z
        simp only [List.count_append, List.count_cons, List.count_nil]; omega
      · simp only [resV]; rw [f2, g2, List.length_append]; omega
      · simp only [resV]; rw [f3, g3, List.length_append]; omega
      · have := (hf x (by simp)).1; rw [x1] at this; exact this
      · have := (hf x (by simp)).2.1; rw [x1] at this; rw [this, x2]
    | n + 3, hb, _ => have := Nat.le_of_ble_eq_true hb; omega
theorem bund_ok {R : E0 → Value → Prop} {ys : List (Nat × List E0)} {as : List Value} (h : YsR R ys as) : EVR R (bundE ys) (bundle as) := by
  have hY : ∀ {ys : List (Nat × List E0)} {as : List Value}, YsR R ys as → AllY R (ys.map fun y => (Nat.beq y.1 1, y.2)) as := by
    intro ys
    induction ys with
    | nil => intro as h; cases as with
      | nil => trivial
      | cons a as => exact h.elim
    | cons y ys ih =>
      intro as h
      obtain ⟨w, xs⟩ := y
      cases as with
      | nil => cases w with
        | zero => exact h.elim
        | succ w => cases w <;> exact h.elim
      | cons a as =>
        match w, h with
        | 0, h =>
          refine ⟨?_, ih h.2⟩
          have := AllE_len h.1
          match xs, h.1 with
          | [x], h1 => exact ⟨x, rfl, h1.1⟩
        | 1, h => exact ⟨h.1, ih h.2⟩
        | n + 2, h => exact h.elim
  match ys, as, h with
  | [], [], _ => exact ⟨[], rfl, trivial⟩
  | [(0, xs)], [a], h =>
    match xs, h.1 with
    | [x], h1 => exact h1.1
  | [(1, xs)], [a], h => exact h.1
  | [(n + 2, xs)], [a], h => exact h.elim
  | y :: y' :: ys, [], h => obtain ⟨w, xs⟩ := y; cases w with
    | zero => exact h.elim
    | succ w => cases w <;> exact h.elim
  | [y], [], h => obtain ⟨w, xs⟩ := y; cases w with
    | zero => exact h.elim
    | succ w => cases w <;> exact h.elim
  | [], a :: as, h => exact h.elim
  | [(0, xs)], a :: b :: as, h => exact h.2.elim
  | [(1, xs)], a :: b :: as, h => exact h.2.elim
  | [(n + 2, xs)], a :: b :: as, h => exact h.elim
  | (0, xs) :: y' :: ys, [a], h => obtain ⟨w, xs⟩ := y'; cases w with
    | zero => exact h.2.elim
    | succ w => cases w <;> exact h.2.elim
  | (1, xs) :: y' :: ys, [a], h => obtain ⟨w, xs⟩ := y'; cases w with
    | zero => exact h.2.elim
    | succ w => cases w <;> exact h.2.elim
  | (n + 2, xs) :: y' :: ys, [a], h => exact h.elim
  | y :: y' :: ys, a :: b :: as, h =>
    have e : bundE (y :: y' :: ys) = .u ((y :: y' :: ys).map fun y => (Nat.beq y.1 1, y.2)) := by
      obtain ⟨w, xs⟩ := y
      cases w with
      | zero => cases xs with
        | nil => rfl
        | cons x xs => cases xs <;> rfl
      | succ w => rfl
    rw [e]
    exact ⟨a :: b :: as, rfl, hY h⟩
end Go.Proofs.Ytmikdglafmfnfaa.Eng
