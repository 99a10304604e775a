/- The pure engine's truth: a function's text gives its call. -/
import Derived.Test.YtmikdglafmfnfaaEngPu
namespace Go.Proofs.Ytmikdglafmfnfaa.Eng
open Go Go.RowKit
set_option linter.unusedVariables false
set_option linter.unusedSimpArgs false
set_option linter.constructorNameAsVariable false
theorem AllV_of {R : EV → Value → Prop} {a : EV} {u : Value} {l : List EV} {us : List Value} (h : R a u) (h2 : AllV R l us) : AllV R (a :: l) (u :: us) := ⟨h, h2⟩
theorem inP_ok {ro : List (List T)} {m : Mst} {s : St} {slR : List E0} {svR vs : List Value} {cs : List (List T)} : ∀ (ps : List (Nat × List CS)) (as v1 : List Value) (c1 : List (List T)) (s1 : List Value) (M1 D1 : List Nat) (ob : Obs) (nk i j rj : Nat), (ps.all fun p => okC p.2) = true → (∀ p ∈ ps, p.1 ≤ 2) → KOk ro ob nk → ParR s ps as v1 c1 s1 M1 D1 → Str vs i v1 → StrC cs j c1 →
    StrE slR rj (roRefs (csOf ps) rj) → StrV svR rj (roVals (csOf ps) s1) →
    ∃ L, Ph ro m s slR svR [] ob nk (inP vs cs ps ob nk i j rj).ob (inP vs cs ps ob nk i j rj).nk L [] M1 ∧
      ∀ ro m', (∀ x ∈ L, Fits ro m' x) → AllE (E0R ro m') slR svR → AllV (EVR (E0R ro m')) (inP vs cs ps ob nk i j rj).es as ∧ AllS (E0R ro m') (inP vs cs ps ob nk i j rj).sids s1 ∧ AllE (E0R ro m') (inP vs cs ps ob nk i j rj).mp (muV (csOf ps) s1) ∧ AllE (E0R ro m') (inP vs cs ps ob nk i j rj).bp (bpV ps as)
  | [], as, v1, c1, s1, M1, D1, ob, nk, i, j, rj, _, _, hk, h, _, _, _, _ => by
    simp only [ParR] at h
    obtain ⟨rfl, rfl, rfl, rfl, rfl, rfl⟩ := h
    exact ⟨[], Ph.nil hk, fun ro m' _ _ => ⟨trivial, trivial, by simp [inP, csOf, muV, AllE], by simp [inP, bpV, AllE]⟩⟩
  | (w, k) :: r, as, v1, c1, s1, M1, D1, ob, nk, i, j, rj, hok, hw2, hk, h, hv, hc, he, hw => by
    simp only [List.all_cons, Bool.and_eq_true] at hok
    simp only [ParR] at h
    obtain ⟨a, as', us, v2, v3, c2, c3, s2, s3, M2, M3, D2, D3, rfl, rfl, rfl, rfl, rfl, h1, h2, hwr⟩ := h
    have hcs : csOf ((w, k) :: r) = k ++ csOf r := by simp [csOf]
    obtain ⟨l1, l2⟩ := CellsR_ns h1
    rw [hcs] at he hw ⊢
    rw [roRefs_app] at he
    rw [roVals_app l2] at hw
    obtain ⟨L1, g1, g2, g3, g4, g5, g6⟩ := inC_ok (m := m) (s := s) (slR := slR) (svR := svR) (vs := vs) (cs := cs) k us v2 c2 s2 M2 D2 ob nk i j rj hok.1 hk h1 hv.app.1 hc.app.1 he.app.1 hw.app.1
    have hno : ∀ k : Nat, k ∈ ([] : List Nat) → False := fun k hk => by simp at hk
    have hrest : ∀ (ob' : Obs) (nk' : Nat), KOk ro ob' nk' → _ := fun ob' nk' hk' => inP_ok (m := m) (s := s) (slR := slR) (svR := svR) (vs := vs) (cs := cs) r as' v3 c3 s3 M3 D3 ob' nk' (inC vs cs k ob nk i j rj).i (inC vs cs k ob nk i j rj).j (inC vs cs k ob nk i j rj).rj hok.2 (fun p hp => hw2 p (by simp [hp])) hk' h2 (by rw [g2]; exact hv.app.2) (by rw [g3]; exact hc.app.2) (by rw [g4]; exact he.app.2) (by rw [g4, ← g5]; exact hw.app.2)
    have hwl := hw2 (w, k) (by simp)
    rw [muV_app l2]
    rcases w with _ | _ | _ | n
    · obtain ⟨rfl, rfl⟩ := hwr
      obtain ⟨L2, f1, f2⟩ := hrest _ _ g1.kok
      refine ⟨L1 ++ L2, ?_, fun ro m' hf ha => ?_⟩
      · exact g1.comp f1 (fun k hk => (hno k hk).elim) (fun k hk => (hno k hk).elim) (fun k hk => (hno k hk).elim)
      · obtain ⟨q1, q2, q3⟩ := g6 ro m' (fun x hx => hf x (by simp [hx])) ha
        obtain ⟨p1, p2, p3, p4⟩ := f2 ro m' (fun x hx => hf x (by simp [hx])) ha
        refine ⟨⟨?_, p1⟩, q2.app p2, AllE_app q3 p3, p4⟩
        have hone : ∀ (ys : List E0), AllE (E0R ro m') ys [a] → EVR (E0R ro m') (match ys with | [x] => .o x | _ => .o .w) a := fun ys hy => by
          match ys, hy with
          | [x], hy => exact hy.1
        exact hone _ q1
    · obtain ⟨rfl, rfl⟩ := hwr
      obtain ⟨L2, f1, f2⟩ := hrest _ _ g1.kok
      refine ⟨L1 ++ L2, ?_, fun ro m' hf ha => ?_⟩
      · exact g1.comp f1 (fun k hk => (hno k hk).elim) (fun k hk => (hno k hk).elim) (fun k hk => (hno k hk).elim)
      · obtain ⟨q1, q2, q3⟩ := g6 ro m' (fun x hx => hf x (by simp [hx])) ha
        obtain ⟨p1, p2, p3, p4⟩ := f2 ro m' (fun x hx => hf x (by simp [hx])) ha
        exact ⟨⟨⟨us, rfl, q1⟩, p1⟩, q2.app p2, AllE_app q3 p3, p4⟩
    · obtain ⟨h, rfl, hg, rfl⟩ := hwr
      obtain ⟨x, x1, x2, x3, x4, x5, x6⟩ := Ph.box (nk := (inC vs cs k ob nk i j rj).nk) (sl := slR) (sv := svR) (Lc := L1) hg (fun ro m' hf ha => (g6 ro m' hf ha).1)
      have gb := g1.addBox x1 x5 (by rw [x3, x2]) (by rw [x4, x2]) x6
      obtain ⟨L2, f1, f2⟩ := hrest _ _ gb.kok
      have hcomp := gb.comp f1 (fun k hk => (hno k hk).elim) (fun k hk => (hno k hk).elim) (fun k hk => (hno k hk).elim)
      refine ⟨(L1 ++ [x]) ++ L2, ?_, fun ro m' hf ha => ?_⟩
      · refine ⟨hcomp.look, hcomp.rest, hcomp.kok, hcomp.le, hcomp.keys, hcomp.key, hcomp.cov, hcomp.ok, hcomp.nd, hcomp.rows, hcomp.perm.trans ?_, hcomp.has⟩
        rw [x2]
        apply List.perm_iff_count.2
        intro z
        simp only [List.count_append, List.count_cons, List.count_nil]; omega
      · obtain ⟨q1, q2, q3⟩ := g6 ro m' (fun y hy => hf y (by simp [hy])) ha
        obtain ⟨p1, p2, p3, p4⟩ := f2 ro m' (fun y hy => hf y (by simp [hy])) ha
        have hx : E0R ro m' (.p (inC vs cs k ob nk i j rj).nk 0) (pt h 0) := by
          have hfx := hf x (by simp)
          refine ⟨by rw [← x1]; exact hfx.1, rfl, fun ys _ => ?_⟩
          have := hfx.2.1
          rw [x1] at this
          rw [this, x2]
        exact ⟨⟨hx, p1⟩, q2.app p2, AllE_app q3 p3, ⟨hx, p4⟩⟩
    · exfalso; simp only at hwl; omega
/-- Where the slices that are read lie. -/
theorem roC_ok {s : St} : ∀ (css : List CS) (us vs : List Value) (cs : List (List T)) (sv : List Value) (M D : List Nat) (j : Nat), okC css = true → CellsR s css us vs cs sv M D →
    ∃ R : List Asg, R.length = (roOf css cs).length ∧ (roRefs css j).length = R.length ∧ (roVals css sv).length = R.length ∧ ∀ (t : Nat) a, R[t]? = some a → ∃ c e u, (roOf css cs)[t]? = some c ∧ (roRefs css j)[t]? = some (.t (j + t) e) ∧ (roVals css sv)[t]? = some u ∧ 0 < e ∧ (∀ x ∈ a.F, x ∈ D) ∧ one u = true ∧
      ((a.nil = true ∧ c = [] ∧ a.F = [] ∧ u = nl) ∨ (a.nil = false ∧ Win s false c a.h a.b a.F ∧ ∃ n, c.length = n * e ∧ u = sl a.h a.b n e))
  | [], us, vs, cs, sv, M, D, j, _, h => ⟨[], by simp [roOf], by simp [roRefs], by simp [roVals], fun t a ha => by simp at ha⟩
  | .v :: r, us, vs, cs, sv, M, D, j, hok, h => by
    simp only [CellsR] at h
    obtain ⟨u, us', vs', rfl, rfl, hp, h⟩ := h
    simp only [roOf, roRefs, roVals]
    exact roC_ok r us' vs' cs sv M D j hok h
  | .t e (n + 1) :: r, us, vs, cs, sv, M, D, j, hok, h => by
    simp only [CellsR] at h
    obtain ⟨u, us', c, cs', sv', F, M', D', rfl, rfl, rfl, ht, hmd, h⟩ := h
    obtain ⟨rfl, rfl⟩ := hmd
    simp only [okC, Bool.and_eq_true] at hok
    simp only [roOf, roRefs, roVals]
    exact roC_ok r us' vs cs' sv' M' D j hok.2 h
  | .t e 0 :: r, us, vs, cs, sv, M, D, j, hok, h => by
    simp only [CellsR] at h
    obtain ⟨u, us', c, cs', sv', F, M', D', rfl, rfl, rfl, ht, hmd, h⟩ := h
    obtain ⟨rfl, rfl⟩ := hmd
    simp only [okC, Bool.and_eq_true] at hok
    obtain ⟨R, g1, g2, g3, g4⟩ := roC_ok r us' vs cs' sv' M D' (j + 1) hok.2 h
    simp only [roOf, roRefs, roVals]
    have hpos : 0 < e := Nat.le_of_ble_eq_true hok.1.1
    have hA : ∃ a : Asg, a.F = F ∧ one u = true ∧ ((a.nil = true ∧ c = [] ∧ a.F = [] ∧ u = nl) ∨ (a.nil = false ∧ Win s false c a.h a.b a.F ∧ ∃ n, c.length = n * e ∧ u = sl a.h a.b n e)) := by
      rcases TR_l.1 ht with ⟨rfl, rfl, rfl⟩ | ⟨h0, b0, n, rfl, hl, hw⟩
      · exact ⟨⟨true, 0, 0, []⟩, rfl, rfl, .inl ⟨rfl, rfl, rfl, rfl⟩⟩
      · exact ⟨⟨false, h0, b0, F⟩, rfl, rfl, .inr ⟨rfl, hw, n, hl, rfl⟩⟩
    obtain ⟨a, haF, hone, ha⟩ := hA
    refine ⟨a :: R, by simp [g1], by simp [g2], by simp [g3], fun t b hb => ?_⟩
    cases t with
    | zero =>
      simp at hb; subst hb
      exact ⟨c, e, u, rfl, rfl, rfl, hpos, fun x hx => by rw [haF] at hx; simp [hx], hone, ha⟩
    | succ t =>
      obtain ⟨c', e', u', k1, k2, k3, k4, k5, k6, k7⟩ := g4 t b (by simpa using hb)
      exact ⟨c', e', u', by simpa using k1, by rw [show j + (t + 1) = j + 1 + t by omega]; simpa using k2, by simpa using k3, k4, fun x hx => by simp [k5 x hx], k6, k7⟩
theorem rget_at : ∀ {ro : List (List T)} {k : Nat}, rget ro k = (ro[k]?).map fun c => .ls false c
  | [], k => by simp [rget]
  | c :: r, 0 => by simp [rget]
  | c :: r, k + 1 => by simp only [rget]; rw [rget_at]; simp
theorem AllE_of {R : E0 → Value → Prop} : ∀ {xs : List E0} {us : List Value}, xs.length = us.length → (∀ (t : Nat) x u, xs[t]? = some x → us[t]? = some u → R x u) → AllE R xs us
  | [], [], _, _ => trivial
  | x :: xs, u :: us, hl, h => ⟨h 0 x u rfl rfl, AllE_of (by simpa using hl) fun t y w hy hw => h (t + 1) y w (by simpa using hy) (by simpa using hw)⟩
  | [], _ :: _, hl, _ => by simp at hl
  | _ :: _, [], hl, _ => by simp at hl
theorem env0 {ro : List (List T)} {m : Mst} : ∀ {es : List EV} {as : List Value} {i : Nat}, AllV (EVR (E0R ro m)) es as → ∀ env1 t, TagR (E0R ro m) env1 (lkE (envP i es) t) (lk (args0 i as) t)
  | [], [], i, _ => fun env1 t => trivial
  | e :: es, a :: as, i, h => fun env1 t => by
    simp only [envP, args0, lkE, lk]
    cases hb : Nat.beq i t with
    | true => exact h.1
    | false => exact env0 h.2 env1 t
  | [], _ :: _, _, h => h.elim
  | _ :: _, [], _, h => h.elim
theorem pins_ok {R : E0 → Value → Prop} {n : Nat} (hw : ∀ u, R .w u) : ∀ {sids : List (Nat × Nat)} {sv : List Value}, AllS R sids sv → AllE R (sids.map (pinOf n)) sv
  | [], [], _ => trivial
  | x :: r, u :: w, h => by
    refine ⟨?_, pins_ok hw h.2⟩
    unfold pinOf
    cases Nat.blt x.1 n with
    | true => exact h.1
    | false => exact hw u
  | [], _ :: _, h => h.elim
  | _ :: _, [], h => h.elim
theorem pins_flat {n : Nat} : ∀ {sids : List (Nat × Nat)}, (sids.map (pinOf n)).all flatE = true
  | [] => rfl
  | x :: r => by
    simp only [List.map_cons, List.all_cons, pins_flat, Bool.and_true]
    unfold pinOf
    cases Nat.blt x.1 n <;> rfl
theorem eqE_ok : ∀ {a b : List E0}, eqE a b = true → a = b
  | [], [], _ => rfl
  | x :: r, y :: r', h => by
    cases x <;> cases y <;> simp only [eqE, Bool.false_eq_true, Bool.and_eq_true] at h
    · rw [Nat.eq_of_beq_eq_true h.1.1, Nat.eq_of_beq_eq_true h.1.2, eqE_ok h.2]
    · rw [eqE_ok h]
  | [], _ :: _, h => by simp [eqE] at h
  | x :: _, [], h => by cases x <;> simp [eqE] at h
theorem sid_ok {ro : List (List T)} {m : Mst} {sids : List (Nat × Nat)} {sv : List Value} (h : AllE (E0R ro m) (sids.map (pinOf ro.length)) sv) : SidA ro m sids sv := by
  intro j k e hs hk
  rw [List.getD_eq_getElem?_getD] at hs
  cases hj : sids[j]? with
  | none => rw [hj] at hs; simp at hs
  | some x =>
    rw [hj] at hs
    simp at hs
    subst hs
    have hl := AllE_len h
    have hlt : j < sv.length := by rw [hl, List.length_map]; exact (List.getElem?_eq_some_iff.1 hj).1
    refine ⟨sv[j], List.getElem?_eq_getElem hlt, ?_⟩
    have := AllE_idx h (show (sids.map (pinOf ro.length))[j]? = some (pinOf ro.length (k, e)) by rw [List.getElem?_map, hj]; rfl) (List.getElem?_eq_getElem hlt)
    unfold pinOf at this
    have hb : Nat.blt k ro.length = true := Nat.ble_eq_true_of_le hk
    rw [hb] at this
    exact this
theorem inC_flat {vs : List Value} {cs : List (List T)} : ∀ {css : List CS} {ob : Obs} {nk i j rj : Nat}, (inC vs cs css ob nk i j rj).mp.all flatE = true
  | [], ob, nk, i, j, rj => rfl
  | .v :: r, ob, nk, i, j, rj => by simp only [inC]; exact inC_flat
  | .t e 0 :: r, ob, nk, i, j, rj => by simp only [inC]; exact inC_flat
  | .t e 1 :: r, ob, nk, i, j, rj => by simp only [inC, List.all_cons, flatE, Bool.true_and]; exact inC_flat
  | .t e (n + 2) :: r, ob, nk, i, j, rj => by simp only [inC]; exact inC_flat
theorem inP_flat {vs : List Value} {cs : List (List T)} : ∀ {ps : List (Nat × List CS)} {ob : Obs} {nk i j rj : Nat}, (inP vs cs ps ob nk i j rj).bp.all flatE = true ∧ (inP vs cs ps ob nk i j rj).mp.all flatE = true
  | [], ob, nk, i, j, rj => ⟨rfl, rfl⟩
  | (w, k) :: r, ob, nk, i, j, rj => by
    rcases w with _ | _ | n
    · simp only [inP, List.all_append, Bool.and_eq_true]
      exact ⟨inP_flat.1, inC_flat, inP_flat.2⟩
    · simp only [inP, List.all_append, Bool.and_eq_true]
      exact ⟨inP_flat.1, inC_flat, inP_flat.2⟩
    · simp only [inP, List.all_append, List.all_cons, flatE, Bool.true_and, Bool.and_eq_true]
      exact ⟨inP_flat.1, inC_flat, inP_flat.2⟩
/-- What a function's text over trees allows, its call allows. -/
theorem cl2_of_run {C : Ctx} {f : FuncId} {fn : Func} {g : Sg} {vs : List Value} {cs : List (List T)} {K : J2} {q : Prop} (sgs : List (Nat × Sg)) (an : List (Nat × List Nat)) (js : List (Nat × JS)) (hf : C.P.funcs[f]? = some fn) (hmo : C.P.follows .mixedOrders = true)
    (hn : fnFits fn g.ps.length = true) (he : runF2 C sgs an js fn g vs cs K = q) (h : q) : cl2 C f g vs cs K := by
  rw [← he] at h
  intro s as sv M D hpar hMn hMD
  unfold runF2 at h
  cases hbody : fn.body with
  | none => rw [hbody] at h; exact h.elim
  | some c =>
    rw [hbody] at h
    simp only at h
    split at h
    · rename_i hok
      simp only [Bool.and_eq_true] at hok
      have hokS := hok.1
      unfold okSg at hokS
      simp only [Bool.and_eq_true] at hokS
      have hw2 : ∀ p ∈ g.ps, p.1 ≤ 2 := fun p hp => Nat.le_of_ble_eq_true (List.all_eq_true.1 hok.2 p hp)
      obtain ⟨⟨usA, MA, hcells⟩, hlen⟩ := ParR_cells hpar
      have hokC : okC (csOf g.ps) = true := by
        have := hokS.1.1
        unfold csOf
        generalize g.ps = ps at this
        induction ps with
        | nil => rfl
        | cons p r ih =>
          simp only [List.all_cons, Bool.and_eq_true] at this
          simp only [List.map_cons, List.flatten_cons]
          have h2 := ih this.2
          have h1 := this.1
          generalize p.2 = a at h1
          induction a with
          | nil => exact h2
          | cons c a iha =>
            cases c with
            | v => simp only [List.cons_append, okC] at *; exact iha h1
            | t e md => simp only [List.cons_append, okC, Bool.and_eq_true] at *; exact ⟨h1.1, iha h1.2⟩
      obtain ⟨R, r1, r2, r3, r4⟩ := roC_ok (csOf g.ps) usA vs cs sv MA D 0 hokC hcells
      have s1 : Str vs 0 vs := fun t x hx => by simp [nx, List.getD_eq_getElem?_getD, hx]
      have s2 : StrC cs 0 cs := fun t x hx => by simp [nxc, List.getD_eq_getElem?_getD, hx]
      have k0 : KOk (roOf (csOf g.ps) cs) [] (roOf (csOf g.ps) cs).length := ⟨by simp, fun x hx => by simp at hx, Nat.le_refl _⟩
      obtain ⟨L, p1, p2⟩ := inP_ok (m := ⟨s, [], 0, fun _ => ⟨true, 0, 0, []⟩⟩) (s := s) (slR := roRefs (csOf g.ps) 0) (svR := roVals (csOf g.ps) sv) (vs := vs) (cs := cs) g.ps as vs cs sv M D [] (roOf (csOf g.ps) cs).length 0 0 0 hokS.1.1 hw2 k0 hpar s1 s2 (fun t x hx => by rw [Nat.zero_add]; exact hx) (fun t x hx => by rw [Nat.zero_add]; exact hx)
      generalize hro : roOf (csOf g.ps) cs = ro at *
      generalize hip : inP vs cs g.ps [] ro.length 0 0 0 = ip at *
      have hLk : ∀ x ∈ L, ro.length ≤ x.k ∧ x.k < ip.nk := fun x hx => by
        rcases p1.key x hx with ⟨a, _⟩ | a
        · simp at a
        · exact a
      let A0 : Nat → Asg := findA (fun k => R.getD k ⟨true, 0, 0, []⟩) L
      have hA0L : ∀ x ∈ L, A0 x.k = x.a := fun x hx => findA_in p1.keys hx
      have hA0R : ∀ k, k < ro.length → A0 k = R.getD k ⟨true, 0, 0, []⟩ := fun k hk => findA_out fun x hx he => by have := (hLk x hx).1; omega
      let m : Mst := ⟨s, ip.ob, ip.nk, A0⟩
      have hfit : ∀ x ∈ L, Fits ro m x := fun x hx => ⟨(hLk x hx).2, hA0L x hx, fun c hc => by show look2 ro ip.ob x.k = _; rw [p1.look x hx, hc]⟩
      have hlook : ∀ k o, look2 ro ip.ob k = some o → (k < ro.length ∧ ∃ c, o = .ls false c ∧ ro[k]? = some c) ∨ ∃ x ∈ L, x.k = k ∧ x.o = o := by
        intro k o hk
        by_cases hx : ∃ x ∈ L, x.k = k
        · obtain ⟨x, hx, rfl⟩ := hx
          rw [p1.look x hx] at hk
          exact .inr ⟨x, hx, rfl, Option.some.inj hk⟩
        · rw [p1.rest k fun x hx' he => hx ⟨x, hx', he⟩] at hk
          have hk' : rget ro k = some o := hk
          rw [rget_at] at hk'
          simp only [Option.map_eq_some_iff] at hk'
          obtain ⟨c, h1, rfl⟩ := hk'
          exact .inl ⟨(List.getElem?_eq_some_iff.1 h1).1, c, rfl, h1⟩
      have hroE : AllE (E0R ro m) (roRefs (csOf g.ps) 0) (roVals (csOf g.ps) sv) := by
        refine AllE_of (by rw [r2, r3]) fun t x u hx hu => ?_
        have hlt : t < R.length := by rw [← r2]; exact (List.getElem?_eq_some_iff.1 hx).1
        obtain ⟨c, e, u', q1, q2, q3, q4, q5, q6, q7⟩ := r4 t R[t] (List.getElem?_eq_getElem hlt)
        rw [q2] at hx; cases hx
        rw [q3] at hu; cases hu
        have hlt2 : t < ro.length := by rw [← r1]; exact hlt
        have hAt : A0 t = R[t] := by rw [hA0R t hlt2]; simp [List.getD_eq_getElem?_getD, hlt]
        rw [Nat.zero_add]
        refine ⟨Nat.lt_of_lt_of_le hlt2 p1.le, q6, q4, fun own cs' hl => ?_⟩
        rcases hlook t _ hl with ⟨_, c', h1, h2⟩ | ⟨x, hx, he, _⟩
        · cases h1
          rw [q1] at h2; cases h2
          show _ ∨ ∃ n, (A0 t).nil = false ∧ _ ∧ u = sl (A0 t).h (A0 t).b n e
          rw [show (m.A t) = A0 t from rfl, hAt]
          rcases q7 with ⟨a1, a2, a3, a4⟩ | ⟨a1, a2, n, a3, a4⟩
          · exact .inl ⟨a4, a1⟩
          · exact .inr ⟨n, a1, a3, a4⟩
        · have := (hLk x hx).1; omega
      obtain ⟨f1, f2, f3, f4⟩ := p2 ro m hfit hroE
      have hF : ∀ x ∈ L, ∀ y ∈ x.a.F, y ∈ x.P := fun x hx y hy => by
        rcases p1.rows x hx y hy with a | ⟨_, _, a⟩
        · exact a
        · simp at a
      have hPM : ∀ x ∈ L, ∀ y ∈ x.P, y ∈ M := fun x hx y hy => by
        rw [← p1.perm.mem_iff]; exact List.mem_flatten.2 ⟨_, List.mem_map.2 ⟨x, hx, rfl⟩, hy⟩
      have hnd : (rowsP L).Nodup := p1.perm.nodup_iff.2 hMn
      have hRo : ∀ k, k < ro.length → ∀ y ∈ (A0 k).F, y ∈ D := fun k hk y hy => by
        have hlt : k < R.length := by rw [r1]; exact hk
        obtain ⟨c, e, u', q1, q2, q3, q4, q5, q6, q7⟩ := r4 k R[k] (List.getElem?_eq_getElem hlt)
        rw [hA0R k hk] at hy
        simp [List.getD_eq_getElem?_getD, hlt] at hy
        exact q5 y hy
      have hm : Mem ⟨s, M⟩ ro m := by
        refine ⟨p1.kok, fun k o hk => ?_, fun k o hk how => ?_, fun k k' o o' hne hk hk' how y hy hy' => ?_, Nat.le_refl _, fun h _ _ => rfl⟩
        · rcases hlook k o hk with ⟨hlt, c, rfl, hc⟩ | ⟨x, hx, rfl, rfl⟩
          · have hlt' : k < R.length := by rw [r1]; exact hlt
            obtain ⟨c', e, u', q1, q2, q3, q4, q5, q6, q7⟩ := r4 k R[k] (List.getElem?_eq_getElem hlt')
            have hAt : m.A k = R[k] := by show A0 k = _; rw [hA0R k hlt]; simp [List.getD_eq_getElem?_getD, hlt']
            rw [hc] at q1; cases q1
            simp only [ObR, hAt]
            rcases q7 with ⟨a1, a2, a3, a4⟩ | ⟨a1, a2, n, a3, a4⟩
            · exact .inl ⟨a1, a2, a3⟩
            · exact .inr ⟨a1, a2⟩
          · have hAx : m.A x.k = x.a := hA0L x hx
            rcases p1.ok x hx with ⟨c, hc, hok⟩ | ⟨xs, us, hxo, hxF, hg, hall⟩
            · rw [hc]; simp only [ObR, hAx]; exact hok
            · rw [hxo]; simp only [ObR, hAx]; exact ⟨hxF, us, hg, hall ro m hfit hroE⟩
        · rcases hlook k o hk with ⟨hlt, c, rfl, hc⟩ | ⟨x, hx, rfl, rfl⟩
          · cases how
          · have hAx : m.A x.k = x.a := hA0L x hx
            rw [hAx]
            exact ⟨p1.nd hnd x hx, fun y hy => .inl (hPM x hx y (hF x hx y hy))⟩
        · rcases hlook k o hk with ⟨hlt, c, rfl, hc⟩ | ⟨x, hx, rfl, rfl⟩
          · cases how
          · have hAx : m.A x.k = x.a := hA0L x hx
            rw [hAx] at hy
            rcases hlook k' o' hk' with ⟨hlt, c, rfl, hc⟩ | ⟨z, hz, rfl, rfl⟩
            · exact hMD y (hPM x hx y (hF x hx y hy)) (hRo k' hlt y hy')
            · have hAz : m.A z.k = z.a := hA0L z hz
              rw [hAz] at hy'
              exact flat_disj hnd hx hz hne y (hF x hx y hy) (hF z hz y hy')
      have hE : EnvR ro m (envP 0 ip.es) (args0 0 as) := fun t => env0 f1 _ t
      have hsid : hasA g = true → AllE (E0R ro m) (roPins g ro.length ip.sids) sv := fun ha => by
        unfold roPins
        rw [ha]
        exact pins_ok (fun u => trivial) f2
      have hrp : ∃ w, AllE (E0R ro m) (roPins g ro.length ip.sids) w ∧ (hasA g = true → w = sv) ∧ (roPins g ro.length ip.sids).all flatE = true := by
        cases hh : hasA g with
        | true => exact ⟨sv, hsid hh, fun _ => rfl, by unfold roPins; rw [hh]; exact pins_flat⟩
        | false => exact ⟨[], by unfold roPins; rw [hh]; trivial, fun hx => (by cases hx), by unfold roPins; rw [hh]; rfl⟩
      obtain ⟨rw_, hrw1, hrw2, hrw3⟩ := hrp
      have hbl : (bpV g.ps as).length = ip.bp.length := AllE_len f4
      have hml : (muV (csOf g.ps) sv).length = ip.mp.length := AllE_len f3
      have hpin : PinOk ro m (ip.bp ++ (ip.mp ++ roPins g ro.length ip.sids)) (bpV g.ps as ++ (muV (csOf g.ps) sv ++ rw_)) := by
        refine ⟨AllE_app f4 (AllE_app f3 hrw1), ?_⟩
        simp only [List.all_append, Bool.and_eq_true]
        obtain ⟨b1, b2⟩ := inP_flat (vs := vs) (cs := cs) (ps := g.ps) (ob := []) (nk := ro.length) (i := 0) (j := 0) (rj := 0)
        rw [hip] at b1 b2
        exact ⟨b1, b2, hrw3⟩
      let K1 : Value → Q := fun v s' => ∃ M' vs' cs', (∀ h, h < s.n → h ∉ M → s'.get h = s.get h) ∧ ResR s' g as sv cs v vs' cs' M' ∧ M'.Nodup ∧ (∀ h ∈ M', h ∈ M ∨ s.n ≤ h) ∧ s.n ≤ s'.n ∧ K vs' cs'
      have hret : ∀ m' env' pins' env1', ret2 C g ro.length ip fn.results.toList ⟨m'.ob, m'.nk, env', pins'⟩ K → Mem ⟨s, M⟩ ro m' → EnvR ro m' env' env1' → PinOk ro m' pins' (bpV g.ps as ++ (muV (csOf g.ps) sv ++ rw_)) → retQ C.P fn.results.toList [] env1' K1 m'.s := by
        intro m' env' pins' env1' hr hm' hE' hP'
        unfold ret2 at hr
        split at hr
        · exact hr.elim
        · rename_i es hes
          split at hr
          · exact hr.elim
          · rename_i p hp
            split at hr
            · exact hr.elim
            · rename_i q hq
              split at hr
              · exact hr.elim
              · rename_i l hl
                split at hr
                case h_2 => exact hr.elim
                rename_i hpe
                obtain ⟨as', a1, a2⟩ := resEs_ok hm' hE' fn.results.toList es hes
                have hpl := AllE_len hP'.1
                have e1 := AllE_take ip.bp.length hP'.1
                rw [← hbl, List.take_left, hbl] at e1
                have e2 := AllE_drop ip.bp.length hP'.1
                rw [← hbl, List.drop_left, hbl] at e2
                have e3 := AllE_take ip.mp.length e2
                rw [← hml, List.take_left, hml] at e3
                have e4 := AllE_drop ip.mp.length e2
                rw [← hml, List.drop_left, hml] at e4
                have hSid : hasA g = true → SidA ro m' ip.sids sv := fun hh => by
                  rw [eqE_ok hpe, hrw2 hh] at e4
                  unfold roPins at e4
                  rw [hh] at e4
                  exact sid_ok e4
                have hA1 : (∃ p ∈ g.rs, ∃ j, RC.a j ∈ p.2) → SidA ro m' ip.sids sv := fun ⟨p, hp, j, hj⟩ => hSid (by
                  unfold hasA
                  simp only [Bool.or_eq_true]
                  exact .inl (List.any_eq_true.2 ⟨p, hp, List.any_eq_true.2 ⟨_, hj, rfl⟩⟩))
                have hA2 : (∃ p ∈ g.bs, ∃ j, RC.a j ∈ p) → SidA ro m' ip.sids sv := fun ⟨p, hp, j, hj⟩ => hSid (by
                  unfold hasA
                  simp only [Bool.or_eq_true]
                  exact .inr (List.any_eq_true.2 ⟨p, hp, List.any_eq_true.2 ⟨_, hj, rfl⟩⟩))
                obtain ⟨d1, N1, b1, b2, b3, b4, b5⟩ := outV_ok hm' g.rs es as' _ p.2.2 p.1 p.2.1 [] hA1 (Gone.nil hm'.kok) hp a1
                obtain ⟨d2, N2, c1, c2, c3, c4⟩ := outB_ok hm' g.ps as g.bs _ p.2.2 q.2.2 q.1 q.2.1 (d1 ++ []) hA2 hlen hw2 b1 hq e1
                obtain ⟨d3, N3, g1, g2, g3, g4⟩ := outM_ok hm' (csOf g.ps) usA vs cs sv MA D _ q.2.2 l (d2 ++ (d1 ++ [])) hcells c1 hl e3
                have mv1 := b3.app hm' c3 (fun k hk hd => c4 k hk (by simp [hd])) (fun k hk => c1.own k (by rcases hk with hk | hk <;> simp [hk]))
                have mv2 := mv1.app hm' g3 (fun k hk hd => g4 k hk (by simpa using hd)) (fun k hk => by
                  rcases hk with hk | hk
                  · exact c1.own k (by simpa using hk)
                  · exact g1 k hk)
                refine a2 [] K1 ?_ ?_
                · left
                  rw [List.nil_append]
                  exact List.all_eq_true.2 b5
                · refine ⟨N1 ++ (N2 ++ N3), p.1 ++ q.1, p.2.1 ++ (q.2.1 ++ l), hm'.fr, ⟨as', p.1, q.1, p.2.1, q.2.1, l, N1, N2, N3, by rw [List.nil_append], b5, rfl, rfl, rfl, b2, c2, g2⟩, by rw [← List.append_assoc]; exact mv2.nd, fun h hh => ?_, hm'.frn, hr⟩
                  obtain ⟨k, hk, hkx⟩ := mv2.fr h (by rw [List.append_assoc]; exact hh)
                  have : ∃ o, look2 ro m'.ob k = some o ∧ isOwn o = true := by
                    rcases List.mem_append.1 hk with hk | hk
                    · exact g1 k hk
                    · exact c1.own k (by simpa using hk)
                  obtain ⟨o, ho, how⟩ := this
                  exact (hm'.own k o ho how).2 h hkx
      have hex := exec2_sound (C := C) (sgs := sgs) (an := an) (js := js) (rm := resM fn.results.toList) (nt := fn.ntmps) (pv := bpV g.ps as ++ (muV (csOf g.ps) sv ++ rw_)) c 1 m (envP 0 ip.es) _ (args0 0 as) (resM fn.results.toList) [] _ (fun e env => match e with
          | .ext _ => fun _ => False
          | .nor => retQ C.P fn.results.toList [] env K1
          | .rt => retQ C.P fn.results.toList [] env K1) hm hE hpin (fun e m' env' pins' env1' hk hm' hE' hP' => by
        cases e with
        | nor => exact hret m' env' pins' env1' hk hm' hE' hP'
        | ext i => exact hk.elim
        | rt => exact hret m' env' pins' env1' hk hm' hE' hP') h
      have hcl : cl C f as K1 s := by
        refine cl_of_run an hf hmo (by rw [← hlen]; exact hn) rfl ?_
        unfold runF
        rw [hbody]
        exact hex
      obtain ⟨v, s', hgo, M', vs', cs', z1, z2, z3, z4, z5, z6⟩ := hcl
      exact ⟨v, s', M', vs', cs', hgo, z1, z2, z3, z4, z5, z6⟩
    · exact h.elim
#print axioms cl2_of_run
end Go.Proofs.Ytmikdglafmfnfaa.Eng
