/- The pure engine's truth: every operation. -/
import Derived.Test.YtmikdglafmfnfaaEngPm
namespace Go.Proofs.Ytmikdglafmfnfaa.Eng
open Go Go.RowKit
set_option linter.unusedVariables false
set_option linter.unusedSimpArgs false
set_option linter.constructorNameAsVariable false
theorem optV_ok {ro : List (List T)} {m : Mst} {env : Env2} {env1 : Env} {av : List (Nat × Bool)} (hE : EnvR ro m env env1) (ha : AvOk env1 av) {x : Option Operand} {l : Option Value} (h : optV av env x = some l) : x.map (ev env1) = l := by
  cases x with
  | none => simp only [optV, Option.some.injEq] at h; subst h; rfl
  | some x =>
    simp only [optV, Option.map_eq_some_iff] at h
    obtain ⟨a, h1, rfl⟩ := h
    rw [Option.map_some, ev_val hE ha h1]
theorem vals_ok {ro : List (List T)} {m : Mst} : ∀ {xs : List E0} {us a : List Value}, valsE xs = some a → AllE (E0R ro m) xs us → us = a
  | [], [], a, h, _ => by simp only [valsE, Option.some.injEq] at h; exact h
  | x :: xs, u :: us, a, h, ha => by
    cases x <;> simp only [valsE, reduceCtorEq] at h
    simp only [Option.map_eq_some_iff] at h
    obtain ⟨b, h1, rfl⟩ := h
    rw [ha.1.1, vals_ok h1 ha.2]
  | [], u :: us, a, h, ha => ha.elim
  | x :: xs, [], a, h, ha => ha.elim
theorem fillX_ok {ro : List (List T)} {m : Mst} {P : Program} {env : Env2} {env1 : Env} {av : List (Nat × Bool)} (hE : EnvR ro m env env1) (ha : AvOk env1 av) {fields : Array Field} : ∀ (parts : List (Nat × Operand)) (ps : List (Nat × Nat × List E0)) (cells : List E0) (cs : List Value) (xs : List E0),
    partsX P av env fields parts = some ps → fillX cells ps = some xs → AllE (E0R ro m) cells cs → ∃ l us, partsS P env1 fields parts = some l ∧ fillE cs l = some us ∧ AllE (E0R ro m) xs us
  | [], ps, cells, cs, xs, hp, hf, hc => by
    simp only [partsX, Option.some.injEq] at hp; subst hp
    simp only [fillX, Option.some.injEq] at hf; subst hf
    exact ⟨[], cs, rfl, rfl, hc⟩
  | (i, x) :: r, ps, cells, cs, xs, hp, hf, hc => by
    simp only [partsX, Option.bind_eq_some_iff, Option.map_eq_some_iff] at hp
    obtain ⟨f, h1, sz, h2, ys, h3, l, h4, rfl⟩ := hp
    simp only [fillX] at hf
    split at hf
    · rename_i hb
      simp only [Bool.and_eq_true] at hb
      have e1 := Nat.eq_of_beq_eq_true hb.1
      have e2 := Nat.le_of_ble_eq_true hb.2
      obtain ⟨hv, hy⟩ := cells_ok h3 (ev_ok hE ha x)
      have hl := AllE_len hy
      have hlc := AllE_len hc
      have hc' : AllE (E0R ro m) (cells.take f.offset ++ (ys ++ cells.drop (f.offset + ys.length))) (splice cs f.offset (cellsOf (ev env1 x))) := by
        unfold splice
        rw [List.append_assoc, hl]
        exact AllE_app (AllE_take _ hc) (AllE_app hy (AllE_drop _ hc))
      obtain ⟨l', us, g1, g2, g3⟩ := fillX_ok hE ha r l _ _ xs h4 hf hc'
      refine ⟨(f.offset, sz, ev env1 x) :: l', us, ?_, ?_, g3⟩
      · simp only [partsS, h1, h2, g1, Option.bind_some, Option.map_some]
      · simp only [fillE, hv, hl, e1, beq_self_eq_true, Bool.and_self, Bool.true_and, decide_eq_true (show f.offset + sz ≤ cs.length by omega), if_true]
        exact g2
    · cases hf
theorem AllE_one {R : E0 → Value → Prop} {x : E0} {us : List Value} (h : AllE R [x] us) : ∃ u, us = [u] ∧ R x u := by
  match us, h with
  | [u], h => exact ⟨u, rfl, h.1⟩
/-- Reading a box. -/
theorem loadB {B : Bas} {ro : List (List T)} {m : Mst} (hm : Mem B ro m) {k off sz : Nat} {xs : List E0} {u : Value} (hr : E0R ro m (.p k off) u) (hl : lookO m.ob k = some (.bx xs)) (hs : ((xs.drop off).take sz).length = sz) (hsz : sz ≠ 0 ∨ off ≤ xs.length) : ∃ us : List Value, AllE (E0R ro m) ((xs.drop off).take sz) us ∧ us.length = sz ∧
    ld true sz u m.s = some (.agg us.toArray, m.s) ∧ (∀ v, us = [v] → sz = 1 → ld false 1 u m.s = some (v, m.s)) := by
  have hl2 := look2_own (ro := ro) hl
  obtain ⟨hF, us, hg, ha⟩ := hm.obr k _ hl2
  have hpt := hr.2.2 xs hl2
  subst hpt
  have hlen := AllE_len ha
  have hh := AllE_take sz (AllE_drop off ha)
  have hul := AllE_len hh
  rw [List.length_take, List.length_drop] at hs
  refine ⟨_, hh, by rw [hul, List.length_take, List.length_drop]; exact hs, ld_agg hg (by simp; omega) rfl, fun v hv h1 => ?_⟩
  subst h1
  refine ld_cell hg ?_
  simp only
  rw [List.take_one, List.head?_drop] at hv
  cases hx : us[off]? with
  | none => rw [hx] at hv; simp at hv
  | some y => rw [hx] at hv; simp at hv; rw [hv]
theorem Out.word {C : Ctx} {B : Bas} {ro : List (List T)} {m : Mst} {st : Stp} {v : Value} {e : EV} (hm : Mem B ro m) (hg : stpGoes C st m.s v m.s) (he : EVR (E0R ro m) e v) : Out C B ro m [] [] st v e ⟨m.s, m.ob, m.nk, m.A⟩ := Out.same hm hg he
theorem scW_ok {n sz a b : Nat} {lo hi : Option Value} {l h : Nat} (h1 : bnd 0 lo = some l) (h2 : bnd n hi = some h) (h3 : l ≤ h) (h4 : h ≤ n) : scL sz (sl a b n sz) lo hi = some (sl a (b + l * sz) (h - l) sz) := by
  simp only [scL, sl, h1, h2, Option.bind_some, h3, h4, and_self, if_true]
theorem loadK_ok {C : Ctx} {B : Bas} {ro : List (List T)} {m : Mst} (hm : Mem B ro m) {k off sz : Nat} {pre : List Nat} {u : Value} {own : Bool} {cs : List T} {ks : List CK} {r : R2} (hp : posK ks) (hr : E0R ro m (.e k pre off) u) (hl : look2 ro m.ob k = some (.ls own cs)) (hs : ks.length = sz) (h : loadK cs k pre off ks false = some r) :
    R2S C B ro m (.rd u (ld false sz u)) r := by
  unfold loadK at h
  split at h
  · cases h
    simp at hs; subst hs
    refine ⟨fun x y h => (by cases h; rfl), ?_⟩
    rintro K ⟨v, h1, h2⟩
    obtain ⟨h3, h4⟩ := loadC hm hr hl h1
    exact ⟨v, v, m.s, h2, Out.word hm h3 ⟨rfl, h4⟩⟩
  · cases h
    simp at hs; subst hs
    refine ⟨fun x y h => (by cases h), ?_⟩
    rintro K ⟨⟨ds, h1⟩, h2⟩
    obtain ⟨v, h3, h4⟩ := loadL hm hp.1 hr hl h1
    exact ⟨iv 0, v, m.s, h2, Out.word hm h3 h4⟩
  · cases h
theorem getD_exE {ro : List (List T)} {m : Mst} {e : EV} {u : Value} {i : Nat} {v : Value} (hr : EVR (E0R ro m) e u) (hx : ex u i = some v) : EVR (E0R ro m) (exE e i) v := by
  cases e with
  | o x => trivial
  | g xs => trivial
  | u ys =>
    obtain ⟨us, rfl, ha⟩ := hr
    simp only [ex, List.getElem?_toArray] at hx
    simp only [exE]
    revert ha
    induction ys generalizing us i with
    | nil => intro ha; cases us with
      | nil => simp at hx
      | cons u us => exact ha.elim
    | cons y ys ih =>
      intro ha
      cases us with
      | nil => exact ha.elim
      | cons u us =>
        cases i with
        | zero =>
          simp at hx; subst hx
          have h1 := ha.1
          unfold YR at h1
          obtain ⟨b, xs⟩ := y
          cases b with
          | true => obtain ⟨vs, hv, h1⟩ := h1; exact ⟨vs, hv, h1⟩
          | false => obtain ⟨x, hx, h1⟩ := h1; simp only at hx; subst hx; exact h1
        | succ i => simpa using ih (us := us) (i := i) (by simpa using hx) ha.2
theorem AllY_len {R : E0 → Value → Prop} : ∀ {xs : List (Bool × List E0)} {us : List Value}, AllY R xs us → us.length = xs.length
  | [], [], _ => rfl
  | x :: xs, u :: us, hr => by simp [AllY_len hr.2]
  | [], _ :: _, hr => hr.elim
  | _ :: _, [], hr => hr.elim
theorem AllV_map {ro : List (List T)} {m : Mst} {env : Env2} {env1 : Env} {av : List (Nat × Bool)} (hE : EnvR ro m env env1) (ha : AvOk env1 av) : ∀ (l : List Operand), AllV (EVR (E0R ro m)) (l.map (ev2 av env)) (l.map (ev env1))
  | [] => trivial
  | x :: l => ⟨ev_ok hE ha x, AllV_map hE ha l⟩
theorem callE_sound {C : Ctx} {B : Bas} {ro : List (List T)} {m : Mst} {f : FuncId} {g : Sg} {es : List EV} {as : List Value} {r : R2} (hm : Mem B ro m) (ha : AllV (EVR (E0R ro m)) es as) (h : callE C ro m.ob m.nk f g es = some r) : R2S C B ro m (.call f as) r := by
  simp only [callE, Option.bind_eq_some_iff] at h
  obtain ⟨ar, hp, h⟩ := h
  split at h
  · cases h
  · rename_i hc
    simp only [Bool.and_eq_true] at hc
    split at h
    · rename_i hv
      cases h
      simp only [Bool.and_eq_true, List.isEmpty_iff] at hv
      refine ⟨fun x y h => (by cases h; rfl), ?_⟩
      intro K hK
      obtain ⟨vs', cs', v, s', A', h1, h2, h3, h4⟩ := call_ok (C := C) hm hc.1.1 hp ha hc.1.2 hc.2 hK
      obtain ⟨h4, rfl⟩ := h4 hv.1.1
      have hmo := argP_mu hp hv.1.2
      have hbids := bids_none hp hv.1.2
      rw [delM_none hmo] at h2 h3
      have hrs : ∀ (sl : List E0) (i j : Nat), resV sl vs' cs' g.rs m.ob m.nk i j = ⟨[(0, [.v (nx vs' i)])], m.ob, m.nk, i + 1, j⟩ := by
        intro sl i j
        have hh := hv.1.1
        unfold allV at hh
        split at hh
        · rename_i hrs; rw [hrs]; rfl
        · cases hh
      simp only [hrs] at h2 h3
      rw [resMu_none hmo, (hbids _ _ _ _ _ _ _ _).1, (hbids _ _ _ _ _ _ _ _).2, hv.1.2, killO_nil] at h2
      have hA : A' = m.A := funext fun k => by
        have := h3 hv.1.2 k
        rw [(hbids _ _ _ _ _ _ _ _).2] at this
        exact this (by omega)
      subst hA
      exact ⟨nx vs' 0, nx vs' 0, s', h1, h2⟩
    · cases h
      intro K hK
      obtain ⟨vs', cs', v, s', A', h1, h2, h3, h4⟩ := call_ok (C := C) hm hc.1.1 hp ha hc.1.2 hc.2 hK
      exact ⟨_, _, _, v, s', A', h1, h2⟩
theorem known_pt {B : Bas} {ro : List (List T)} {m : Mst} (hm : Mem B ro m) {y : E0} {u : Value} (hk : knownP ro m.ob y = true) (hx : E0R ro m y u) : ∃ a b, u = pt a b := by
  cases y <;> simp only [knownP, Bool.false_eq_true] at hk
  · split at hk
    · rename_i xs hl
      exact ⟨_, _, hx.2.2 _ (look2_own hl)⟩
    · cases hk
  · split at hk
    · rename_i own cs hl
      obtain ⟨_, _, hx⟩ := hx
      obtain ⟨ds, h, b, _, _, _, hu⟩ := hx _ _ hl
      exact ⟨_, _, hu⟩
    · cases hk
theorem add_ok {ro : List (List T)} {m : Mst} {y : E0} {u : Value} {a b n : Nat} (hx : E0R ro m y u) (hu : u = pt a b) (hk : knownP ro m.ob y = true) : E0R ro m (addO y n) (pt a (b + n)) := by
  cases y <;> simp only [knownP, Bool.false_eq_true] at hk
  · refine ⟨hx.1, rfl, fun xs hl => ?_⟩
    have := hx.2.2 xs hl
    rw [hu] at this
    simp only [pt, Value.pointer.injEq, Option.some.injEq, Addr.mk.injEq, and_true] at this ⊢
    exact ⟨this.1, by rw [this.2]⟩
  · obtain ⟨h1, h2, hx⟩ := hx
    refine ⟨h1, rfl, fun own cs hl => ?_⟩
    obtain ⟨ds, h, b', g1, g2, g3, g4⟩ := hx own cs hl
    rw [hu] at g4
    simp only [pt, Value.pointer.injEq, Option.some.injEq, Addr.mk.injEq, and_true] at g4
    exact ⟨ds, h, b', g1, g2, g3, by rw [g4.1, g4.2, Nat.add_assoc]⟩
theorem b2T_ok {s : St} {o : Bool} : ∀ {c : List T} {us : List Value} {F : List Nat}, TRs s o c us F → c.all isByteT = us.all isByte ∧ ∀ b, c.foldl pushT b = us.foldl pushB b
  | [], us, F, h => by simp only [TRs] at h; rw [h.1]; exact ⟨rfl, fun b => rfl⟩
  | .c v :: c, us, F, h => by
    simp only [TRs] at h
    obtain ⟨u, us', F1, F2, rfl, h1, h2, _⟩ := h
    simp only [TR] at h1
    obtain ⟨rfl, _, _⟩ := h1
    obtain ⟨g1, g2⟩ := b2T_ok h2
    have e1 : isByteT (.c u) = isByte u := by
      unfold isByteT isByte
      cases u <;> try rfl
      all_goals (rename IntKind => k; cases k <;> rfl)
    have e2 : ∀ b, pushT b (.c u) = pushB b u := fun b => by cases u <;> rfl
    exact ⟨by simp only [List.all_cons, e1, g1], fun b => by simp only [List.foldl_cons, e2, g2]⟩
  | .l e cs :: c, us, F, h => by
    simp only [TRs] at h
    obtain ⟨u, us', F1, F2, rfl, h1, h2, _⟩ := h
    obtain ⟨g1, g2⟩ := b2T_ok h2
    have hu : isByte u = false ∧ ∀ b, pushB b u = b := by
      rcases TR_l.1 h1 with ⟨rfl, _⟩ | ⟨_, _, _, rfl, _⟩ <;> exact ⟨rfl, fun b => rfl⟩
    exact ⟨by simp only [List.all_cons, isByteT, hu.1, Bool.false_and], fun b => by simp only [List.foldl_cons, pushT, hu.2, g2]⟩
theorem len_cont {B : Bas} {ro : List (List T)} {m : Mst} (hm : Mem B ro m) {y : E0} {u : Value} {n : Nat} (hx : E0R ro m y u) (hn : lenE ro m.ob y = some n) : ∃ c, contE ro m.ob y (szE y) = some c := by
  cases y with
  | z => exact ⟨[], rfl⟩
  | t k e =>
    simp only [lenE] at hn
    split at hn
    · rename_i hl; exact ⟨_, by simp only [contE, szE, Nat.beq_refl, hl]; rfl⟩
    · cases hn
  | s k pre off n' e =>
    simp only [lenE] at hn
    split at hn
    · rename_i hl; exact ⟨_, by simp only [contE, szE, Nat.beq_refl, hl]; rfl⟩
    · cases hn
  | n k pre e =>
    simp only [lenE] at hn
    split at hn
    · rename_i hl; exact ⟨_, by simp only [contE, szE, Nat.beq_refl, hl]; rfl⟩
    · cases hn
  | _ => simp [lenE] at hn
theorem natOf_iv (n : Nat) : natOf (iv n) = n := Int.toNat_natCast n
theorem part_ok {B : Bas} {ro : List (List T)} {m : Mst} (hm : Mem B ro m) {y : E0} {u : Value} {n sz l h : Nat} {c : List T} {lo hi : Option Value} (hx : E0R ro m y u) (hc : contE ro m.ob y (szE y) = some c) (hn : lenE ro m.ob y = some n) (hb : szE y = sz ∨ isZ y = true) (k1 : bnd 0 lo = some l) (k2 : bnd n hi = some h) (k3 : l ≤ h) (k4 : h ≤ n) :
    ∃ v, scL sz u lo hi = some v ∧ EVR (E0R ro m) (partE y sz (iv l) (iv (h - l))) v := by
  have hco := cont_ok hm hx hc hn
  have hnil : u = nl → n = 0 → scL sz u lo hi = some nl ∧ h - l = 0 := fun hu h0 => by
    subst hu; subst h0
    have : h = 0 := by omega
    subst this
    have : l = 0 := by omega
    subst this
    exact ⟨by simp only [scL, nl, k1, k2, Option.bind_some, and_self, if_true], rfl⟩
  have hmul : l * sz + (h - l) * sz ≤ n * sz := by rw [← Nat.add_mul]; exact Nat.mul_le_mul_right _ (by omega)
  cases y with
  | z =>
    simp only [lenE, Option.some.injEq] at hn; subst hn
    exact ⟨nl, (hnil hx rfl).1, rfl⟩
  | t k e =>
    have hb : e = sz := hb.resolve_right (by simp [isZ])
    subst hb
    obtain ⟨hlt, hone, hpos, hr⟩ := hx
    rcases hco.at_ with ⟨hu, h0, _⟩ | ⟨a, b, F, own, hu, hw, _⟩
    · obtain ⟨g1, g2⟩ := hnil hu h0
      refine ⟨nl, g1, ?_⟩
      simp only [partE, natOf_iv]
      exact ⟨hlt, rfl, fun own cs hl => .inl ⟨rfl, g2⟩⟩
    · refine ⟨_, by rw [hu]; exact scW_ok k1 k2 k3 k4, ?_⟩
      simp only [partE, natOf_iv]
      refine ⟨hlt, rfl, fun own cs hl => ?_⟩
      rcases hr own cs hl with ⟨hh, _⟩ | ⟨n', h1, h2, h3⟩
      · rw [hu] at hh; cases hh
      · rw [hu] at h3
        simp only [sl, Value.slice.injEq, Option.some.injEq, Addr.mk.injEq, and_true] at h3
        obtain ⟨⟨e1, e2⟩, e3⟩ := h3
        exact .inr ⟨cs, _, _, rfl, by rw [h2, ← e3.1]; exact hmul, h1, rfl, by rw [e1, e2]⟩
  | s k pre off n' e =>
    have hb : e = sz := hb.resolve_right (by simp [isZ])
    subst hb
    obtain ⟨hlt, hone, hr⟩ := hx
    rcases hco.at_ with ⟨hu, h0, _⟩ | ⟨a, b, F, own, hu, hw, _⟩
    · obtain ⟨g1, g2⟩ := hnil hu h0
      refine ⟨nl, g1, ?_⟩
      simp only [partE, natOf_iv]
      exact ⟨hlt, rfl, fun own cs hl => .inl ⟨rfl, g2⟩⟩
    · refine ⟨_, by rw [hu]; exact scW_ok k1 k2 k3 k4, ?_⟩
      simp only [partE, natOf_iv]
      refine ⟨hlt, rfl, fun own cs hl => ?_⟩
      rcases hr own cs hl with ⟨hh, _⟩ | ⟨ds, x, b', h1, h2, h3, h4, h5⟩
      · rw [hu] at hh; cases hh
      · rw [hu] at h5
        simp only [sl, Value.slice.injEq, Option.some.injEq, Addr.mk.injEq, and_true] at h5
        obtain ⟨⟨e1, e2⟩, e3⟩ := h5
        exact .inr ⟨ds, x, b', h1, by rw [← e3.1] at h2; omega, h3, h4, by rw [e1, e2, Nat.add_assoc]⟩
  | n k pre e =>
    have hb : e = sz := hb.resolve_right (by simp [isZ])
    subst hb
    obtain ⟨hlt, hone, hpos, hr⟩ := hx
    rcases hco.at_ with ⟨hu, h0, _⟩ | ⟨a, b, F, own, hu, hw, _⟩
    · obtain ⟨g1, g2⟩ := hnil hu h0
      refine ⟨nl, g1, ?_⟩
      simp only [partE, natOf_iv]
      exact ⟨hlt, rfl, fun own cs hl => .inl ⟨rfl, g2⟩⟩
    · refine ⟨_, by rw [hu]; exact scW_ok k1 k2 k3 k4, ?_⟩
      simp only [partE, natOf_iv]
      refine ⟨hlt, rfl, fun own cs hl => ?_⟩
      obtain ⟨ds, h1, hr⟩ := hr own cs hl
      rcases hr with ⟨hh, _⟩ | ⟨n', x, b', h3, h4, h2, h5⟩
      · rw [hu] at hh; cases hh
      · rw [hu] at h5
        simp only [sl, Value.slice.injEq, Option.some.injEq, Addr.mk.injEq, and_true] at h5
        obtain ⟨⟨e1, e2⟩, e3⟩ := h5
        exact .inr ⟨ds, x, b', h1, by rw [h2, ← e3.1]; exact hmul, h3, h4, by rw [e1, e2]⟩
  | _ => simp [lenE] at hn
theorem elemE_ok {B : Bas} {ro : List (List T)} {m : Mst} (hm : Mem B ro m) {y : E0} {u : Value} {n sz j : Nat} (hx : E0R ro m y u) (hn : lenE ro m.ob y = some n) (hb : szE y = sz) (hj : j < n) (ik : IntKind) :
    ∃ v, ia sz u (.int ik (Int.ofNat j)) = some v ∧ EVR (E0R ro m) (elemE y sz (iv j)) v := by
  obtain ⟨c, hc⟩ := len_cont hm hx hn
  have hco := cont_ok hm hx hc hn
  subst hb
  obtain ⟨a, b, hu, hia⟩ := ix_ok hco hj ik
  refine ⟨_, hia, ?_⟩
  cases y with
  | z => simp only [lenE, Option.some.injEq] at hn; omega
  | t k e =>
    obtain ⟨hlt, hone, hpos, hr⟩ := hx
    simp only [elemE, natOf_iv, szE] at *
    refine ⟨hlt, rfl, fun own cs hl => ?_⟩
    rcases hr own cs hl with ⟨hh, _⟩ | ⟨n', h1, h2, h3⟩
    · rw [hu] at hh; cases hh
    · rw [hu] at h3
      simp only [sl, Value.slice.injEq, Option.some.injEq, Addr.mk.injEq, and_true] at h3
      obtain ⟨⟨e1, e2⟩, e3⟩ := h3
      exact ⟨cs, _, _, rfl, h1, rfl, by rw [e1, e2]⟩
  | s k pre off n' e =>
    obtain ⟨hlt, hone, hr⟩ := hx
    simp only [elemE, natOf_iv, szE] at *
    refine ⟨hlt, rfl, fun own cs hl => ?_⟩
    rcases hr own cs hl with ⟨hh, _⟩ | ⟨ds, x, b', h1, h2, h3, h4, h5⟩
    · rw [hu] at hh; cases hh
    · rw [hu] at h5
      simp only [sl, Value.slice.injEq, Option.some.injEq, Addr.mk.injEq, and_true] at h5
      obtain ⟨⟨e1, e2⟩, e3⟩ := h5
      exact ⟨ds, x, b', h1, h3, h4, by rw [e1, e2, Nat.add_assoc]⟩
  | n k pre e =>
    obtain ⟨hlt, hone, hpos, hr⟩ := hx
    simp only [elemE, natOf_iv, szE] at *
    refine ⟨hlt, rfl, fun own cs hl => ?_⟩
    obtain ⟨ds, h1, hr⟩ := hr own cs hl
    rcases hr with ⟨hh, _⟩ | ⟨n', x, b', h3, h4, h2, h5⟩
    · rw [hu] at hh; cases hh
    · rw [hu] at h5
      simp only [sl, Value.slice.injEq, Option.some.injEq, Addr.mk.injEq, and_true] at h5
      obtain ⟨⟨e1, e2⟩, e3⟩ := h5
      exact ⟨ds, x, b', h1, h3, h4, by rw [e1, e2]⟩
  | _ => simp [lenE] at hn
theorem op2_sound {C : Ctx} {B : Bas} {ro : List (List T)} {m : Mst} {sgs : List (Nat × Sg)} {env : Env2} {env1 : Env} {av : List (Nat × Bool)} {o : Oper} {r : R2} (hm : Mem B ro m) (hE : EnvR ro m env env1) (ha : AvOk env1 av) (h : op2 C sgs ro m.ob m.nk av env o = some r) : ∃ st, opOf C.P env1 o = some st ∧ R2S C B ro m st r := by
  obtain ⟨dst, op, type, pos, after, guard⟩ := o
  cases op
  case move x =>
    simp only [op2, Option.some.injEq] at h; subst h
    exact ⟨_, rfl, _, Out.same hm ⟨rfl, rfl⟩ (ev_ok hE ha x)⟩
  case assign x =>
    simp only [op2, Option.some.injEq] at h; subst h
    exact ⟨_, rfl, _, Out.same hm ⟨rfl, rfl⟩ (ev_ok hE ha x)⟩
  case pick c a b =>
    simp only [op2, Option.bind_eq_some_iff, Option.map_eq_some_iff] at h
    obtain ⟨cv, h1, x, h2, y, h3, rfl⟩ := h
    refine ⟨_, rfl, fun x y h => (by cases h; rfl), ?_⟩
    rintro K ⟨v, k1, k2, k3⟩
    have hc := ev_val hE ha h1
    have hav : ∀ w, cv = .bool w → AvOk env1 (pickAv c w av) := by
      intro w hw
      cases c with
      | tmp t =>
        intro g w' hg
        simp only [pickAv, mem2, Bool.or_eq_true, Bool.and_eq_true] at hg
        rcases hg with ⟨e1, e2⟩ | hg
        · have := Nat.eq_of_beq_eq_true e1; subst this
          have : w = w' := by simpa using e2
          subst this
          have : ev env1 (.tmp t) = lk env1 t := rfl
          rw [← this, hc, hw]
        · exact ha g w' hg
      | _ => exact ha
    refine ⟨v, v, m.s, k3, Out.word hm ⟨?_, rfl⟩ ⟨rfl, k2⟩⟩
    rw [hc]
    cases cv with
    | bool w =>
      cases w with
      | true =>
        have := ev_val hE (hav true rfl) h2
        simp only [pk] at k1 ⊢; rw [this]; exact k1
      | false =>
        have := ev_val hE (hav false rfl) h3
        simp only [pk] at k1 ⊢; rw [this]; exact k1
    | _ => simp [pk] at k1
  case alloc t =>
    simp only [op2, Option.map_eq_some_iff] at h
    obtain ⟨z, hz, rfl⟩ := h
    refine ⟨.al (al z.1), by simp only [opOf, hz, Option.map_some], _, _, _, box_out hm (AllE_consts ?_) rfl⟩
    simp only [zeroT, Option.bind_eq_some_iff] at hz
    obtain ⟨i, _, w, _, hz⟩ := hz
    split at hz
    · rename_i hc
      simp only [Bool.and_eq_true] at hc
      cases hz; exact hc.2
    · cases hz
  case box t x =>
    simp only [op2, Option.map_eq_some_iff] at h
    obtain ⟨xs, h1, rfl⟩ := h
    obtain ⟨hv, hx⟩ := cells_ok h1 (ev_ok hE ha x)
    exact ⟨.al (bx (ev env1 x)), rfl, _, _, _, box_out hm hx (by simp only [stpGoes, bx, hv, if_true])⟩
  case build t parts =>
    simp only [op2, Option.bind_eq_some_iff] at h
    obtain ⟨z, hz, h⟩ := h
    split at h
    · rename_i fields hu
      split at h
      · rename_i hfo
        simp only [Option.bind_eq_some_iff, Option.map_eq_some_iff] at h
        obtain ⟨ps, h1, xs, h2, rfl⟩ := h
        have hzc : z.1.all constC = true := by
          simp only [zeroT, Option.bind_eq_some_iff] at hz
          obtain ⟨i, _, w, _, hz⟩ := hz
          split at hz
          · rename_i hc
            simp only [Bool.and_eq_true] at hc
            cases hz; exact hc.2
          · cases hz
        obtain ⟨l, us, g1, g2, g3⟩ := fillX_ok hE ha parts.toList ps _ z.1 xs h1 h2 (AllE_consts hzc)
        refine ⟨.pure (bd z.1 l), by simp only [opOf, hz, hu, hfo, Option.bind_some, if_true, g1, Option.map_some], _, Out.same hm ⟨by simp only [bd, g2, Option.map_some], rfl⟩ ⟨us, rfl, g3⟩⟩
      · cases h
    · cases h
  case buildSlice t len parts =>
    simp only [op2] at h
    split at h
    · rename_i e hu
      simp only [Option.bind_eq_some_iff] at h
      obtain ⟨z, hz, ks, hks, zt, hzt, h⟩ := h
      split at h
      · rename_i hc
        simp only [Option.bind_eq_some_iff, Option.map_eq_some_iff] at h
        obtain ⟨ps, h1, p, h2, rfl⟩ := h
        simp only [Bool.and_eq_true, decide_eq_true_eq] at hc
        have hkl : ks.length = z.2.1 := Nat.eq_of_beq_eq_true hc.2
        obtain ⟨hz1, hz2⟩ := zTs_ok (s := m.s) hzt
        obtain ⟨hr1, hr2⟩ := rep_ok (n := len) hz1
        obtain ⟨cs', dl', Fn', g1, g2, g3, g4, g5⟩ := fill_ok hm hE ha hkl parts.toList ps _ m.ob p.1 p.2 _ [] [] h1 (Gone.nil hm.kok) (Mov.nil m) hr1 h2
        refine ⟨.al (bs z.2.1 len z.1 (partsL env1 z.2.1 parts.toList)), ?_, _, _, _, list_out (s1 := m.s) (n := len) (aff := []) hm g2 g3 g4 rfl (fun _ _ _ => rfl) hc.1.1 (by rw [g5, hr2, hz2, hkl]) ?_ (fun _ _ _ _ _ _ => rfl)⟩
        · simp only [opOf, hu, hz, Option.bind_some]
          rw [if_pos (by simp only [Bool.and_eq_true, decide_eq_true_eq]; exact hc.1)]
        · simp only [stpGoes, bs, g1, Option.map_some]
      · cases h
    · cases h
  case load t x =>
    simp only [op2, Option.bind_eq_some_iff] at h
    obtain ⟨sz, hsz, ag, hag, h⟩ := h
    have hx := ev_ok hE ha x
    refine ⟨.rd (ev env1 x) (ld ag sz (ev env1 x)), by simp only [opOf, hsz, hag, Option.bind_some, Option.map_some], ?_⟩
    split at h
    · rename_i k off he
      rw [he] at hx
      split at h
      · rename_i xs hl
        split at h
        · rename_i hb
          simp only [Bool.and_eq_true] at hb
          have hlen := Nat.eq_of_beq_eq_true hb.1
          have hpos : 0 < sz := Nat.le_of_ble_eq_true hb.2
          obtain ⟨us, g1, g2, g3, g4⟩ := loadB hm hx hl hlen (.inl (by omega))
          cases ag with
          | true =>
            cases h
            exact ⟨_, Out.same hm g3 ⟨us, rfl, g1⟩⟩
          | false =>
            simp only at h
            split at h
            · rename_i y hy
              cases h
              rw [hy] at hlen g1
              simp at hlen
              subst hlen
              obtain ⟨v, rfl, g5⟩ := AllE_one g1
              exact ⟨v, Out.same hm (g4 v rfl rfl) g5⟩
            · cases h
        · cases h
      · cases h
    · rename_i k pre off he
      rw [he] at hx
      split at h
      · rename_i own cs hl
        simp only [Option.bind_eq_some_iff] at h
        obtain ⟨ks, hks, h⟩ := h
        have hp := kindsT_pos hks
        split at h
        · rename_i hb
          simp only [Bool.and_eq_true] at hb
          have hkl : ks.length = sz := Nat.eq_of_beq_eq_true hb.1
          have hpos : 0 < sz := Nat.le_of_ble_eq_true hb.2
          cases ag with
          | false => exact loadK_ok hm hp hx hl hkl h
          | true =>
            cases h
            rintro K ⟨ts, k1, k2, k3⟩
            obtain ⟨us, g1, g2⟩ := loadG hm hp (by omega) hx hl k1 k2
            rw [hkl] at g1
            exact ⟨_, _, _, _, m.s, m.A, k3, Out.same hm g1 ⟨us, rfl, g2⟩⟩
        · cases h
      · cases h
    · cases h
  case store t x v =>
    simp only [op2, Option.bind_eq_some_iff] at h
    obtain ⟨sz, hsz, h⟩ := h
    have hx := ev_ok hE ha x
    refine ⟨.mu (sto sz (ev env1 x) (ev env1 v)), by simp only [opOf, hsz, Option.map_some], ?_⟩
    split at h
    · rename_i k off he
      rw [he] at hx
      split at h
      · rename_i xs hl
        simp only [Option.bind_eq_some_iff] at h
        obtain ⟨ys, hy, h⟩ := h
        split at h
        · rename_i hb
          cases h
          simp only [Bool.and_eq_true] at hb
          obtain ⟨hv, hya⟩ := cells_ok hy (ev_ok hE ha v)
          obtain ⟨s', ho⟩ := store_box (C := C) hm hl hx hv hya (Nat.eq_of_beq_eq_true hb.1) (Nat.le_of_ble_eq_true hb.2)
          exact ⟨undef, s', _, ho⟩
        · cases h
      · cases h
    · rename_i k pre off he
      rw [he] at hx
      simp only [Option.bind_eq_some_iff] at h
      obtain ⟨ks, hks, h⟩ := h
      split at h
      · rename_i hb
        simp only [Bool.and_eq_true] at hb
        have hkl : ks.length = sz := Nat.eq_of_beq_eq_true hb.1
        have hpos : 0 < sz := Nat.le_of_ble_eq_true hb.2
        unfold storeK at h
        split at h
        · rename_i a cs hva hl
          cases h
          simp at hkl; subst hkl
          rintro K ⟨⟨w, k1⟩, k2⟩
          have hv := ev_ok hE ha v
          rw [hva] at hv
          obtain ⟨s', A', ho⟩ := store_c (C := C) hm hl hx hv.2 k1
          rw [hv.1]
          exact ⟨_, _, _, undef, s', A', k2, ho⟩
        · simp only [Option.bind_eq_some_iff] at h
          obtain ⟨xs, h1, p, h2, h⟩ := h
          split at h
          · rename_i cs hl
            cases h
            rintro K ⟨⟨ds, k1, k2⟩, k3⟩
            obtain ⟨hv, hxa⟩ := cells_ok h1 (ev_ok hE ha v)
            obtain ⟨s', A', ho⟩ := store_t (C := C) hm h2 hl hx hv hxa hkl k1 k2 hpos
            exact ⟨_, _, _, undef, s', A', k3, ho⟩
          · cases h
      · cases h
    · cases h
  case nilCheck x =>
    simp only [op2] at h
    have hx := ev_ok hE ha x
    refine ⟨.pure (nc (ev env1 x)), rfl, ?_⟩
    split at h
    · rename_i y he
      rw [he] at hx
      split at h
      · rename_i hk
        cases h
        obtain ⟨a, b, hu⟩ := known_pt hm hk hx
        exact ⟨_, Out.same hm ⟨by rw [hu]; rfl, rfl⟩ hx⟩
      · cases h
    · cases h
  case fieldAddr t x i =>
    simp only [op2] at h
    have hx := ev_ok hE ha x
    split at h
    · rename_i fields hu
      simp only [Option.bind_eq_some_iff] at h
      obtain ⟨f, h1, sz, h2, h⟩ := h
      split at h
      · cases h
      · rename_i h0
        split at h
        · rename_i y he
          rw [he] at hx
          split at h
          · rename_i hk
            cases h
            obtain ⟨a, b, hpt⟩ := known_pt hm hk hx
            refine ⟨.pure (fa f.offset (ev env1 x)), by simp only [opOf, hu, h1, h2, Option.bind_some, h0, if_false], pt a (b + f.offset), Out.same hm ⟨by rw [hpt]; rfl, rfl⟩ (add_ok hx hpt hk)⟩
          · cases h
        · cases h
    · cases h
  case binOp op t x y z =>
    simp only [op2] at h
    split at h
    · rename_i k hu
      simp only [Option.bind_eq_some_iff, Option.map_eq_some_iff] at h
      obtain ⟨a, h1, b, h2, rfl⟩ := h
      exact ⟨.pure (bnI op (ev env1 x) (ev env1 y)), by simp only [opOf, hu], R2S.pure hm (by rw [ev_val hE ha h1, ev_val hE ha h2]) ⟩
    · rename_i hu
      simp only [Option.bind_eq_some_iff, Option.map_eq_some_iff] at h
      obtain ⟨a, h1, b, h2, rfl⟩ := h
      exact ⟨.pure (bnS op (ev env1 x) (ev env1 y)), by simp only [opOf, hu], R2S.pure hm (by rw [ev_val hE ha h1, ev_val hE ha h2]) ⟩
    · rename_i hu
      simp only [Option.bind_eq_some_iff, Option.map_eq_some_iff] at h
      obtain ⟨a, h1, b, h2, rfl⟩ := h
      exact ⟨.pure (bnB op (ev env1 x) (ev env1 y)), by simp only [opOf, hu], R2S.pure hm (by rw [ev_val hE ha h1, ev_val hE ha h2]) ⟩
    · rename_i fs hu
      have hx := ev_ok hE ha x
      have hy := ev_ok hE ha y
      split at h
      · rename_i xs ys he1 he2
        rw [he1] at hx; rw [he2] at hy
        simp only [Option.bind_eq_some_iff, Option.map_eq_some_iff] at h
        obtain ⟨a, h1, b, h2, rfl⟩ := h
        obtain ⟨us, hu1, hx⟩ := hx
        obtain ⟨ws, hu2, hy⟩ := hy
        exact ⟨.pure (bnA C.P op t (ev env1 x) (ev env1 y)), by simp only [opOf, hu], R2S.pure hm (by rw [hu1, hu2, vals_ok h1 hx, vals_ok h2 hy])⟩
      · cases h
    · cases h
  case unOp op t x =>
    simp only [op2, Option.map_eq_some_iff] at h
    obtain ⟨a, h1, rfl⟩ := h
    exact ⟨_, rfl, R2S.pure hm (by rw [ev_val hE ha h1])⟩
  case convert src dst' x =>
    simp only [op2] at h
    split at h
    · rename_i k1 k hu1 hu2
      simp only [Option.map_eq_some_iff] at h
      obtain ⟨a, h1, rfl⟩ := h
      exact ⟨.pure (cvI k (ev env1 x)), by simp only [opOf, hu1, hu2], R2S.pure hm (by rw [ev_val hE ha h1])⟩
    · rename_i e hu1 hu2
      have hx := ev_ok hE ha x
      split at h
      · rename_i y hu3 he
        rw [he] at hx
        simp only [Option.map_eq_some_iff] at h
        obtain ⟨c, h1, rfl⟩ := h
        refine ⟨.rd (ev env1 x) (b2s (ev env1 x)), by simp only [opOf, hu1, hu2, hu3], fun x y h => (by cases h; rfl), ?_⟩
        rintro K ⟨v, k1, k2, k3⟩
        obtain ⟨n, hn⟩ := cont_len h1
        have hc := cont_ok hm hx h1 hn
        obtain ⟨us, F, own, g1, g2⟩ := hc.got
        refine ⟨v, v, m.s, k3, Out.word hm ?_ ⟨rfl, k2⟩⟩
        simp only [stpGoes, b2s, g1, Option.bind_some]
        obtain ⟨e1, e2⟩ := b2T_ok g2
        unfold b2T at k1
        rw [e1] at k1
        split at k1
        · rename_i hb
          rw [if_pos hb]
          rw [e2] at k1
          cases k1; rfl
        · cases k1
      · cases h
    · cases h
  case makeSlice t l c =>
    simp only [op2] at h
    split at h
    · rename_i e hu
      simp only [Option.bind_eq_some_iff] at h
      obtain ⟨z, hz, ks, hks, zt, hzt, h⟩ := h
      split at h
      · rename_i hc
        simp only [Option.bind_eq_some_iff, Option.map_eq_some_iff] at h
        obtain ⟨a, h1, b, h2, rfl⟩ := h
        simp only [Bool.and_eq_true, decide_eq_true_eq] at hc
        have hkl : ks.length = z.2.1 := Nat.eq_of_beq_eq_true hc.2
        refine ⟨.al (mk z.2.2 z.2.1 z.1 (ev env1 l) (ev env1 c)), ?_, ?_⟩
        · simp only [opOf, hu, hz, Option.bind_some]
          rw [if_pos (by simp only [Bool.and_eq_true, decide_eq_true_eq]; exact hc.1)]
        · rintro K ⟨n, k1, k2, k3, k4⟩
          obtain ⟨hz1, hz2⟩ := zTs_ok (s := m.s) hzt
          obtain ⟨hr1, hr2⟩ := rep_ok (n := n) hz1
          rw [ev_val hE ha h1, ev_val hE ha h2, k1, k2]
          refine ⟨_, _, _, _, _, _, k4, list_out (s1 := m.s) (us := reps n z.1) (n := n) (aff := []) hm (Gone.nil hm.kok) (Mov.nil m) ?_ rfl (fun _ _ _ => rfl) hc.1.1 ?_ ?_ (fun _ _ _ _ _ _ => rfl)⟩
          · simp only [natOf, iv, Int.toNat_natCast]; exact hr1
          · simp only [natOf, iv, Int.toNat_natCast]; rw [hr2, hz2, hkl]
          · simp only [stpGoes, mk, iv]
            rw [if_pos ⟨by omega, trivial, by exact_mod_cast k3⟩, Int.toNat_natCast]
      · cases h
    · cases h
  case slice t x lo hi mx =>
    cases mx with
    | some mx => simp [op2] at h
    | none =>
    simp only [op2] at h
    split at h
    · rename_i hu
      simp only [Option.bind_eq_some_iff, Option.map_eq_some_iff] at h
      obtain ⟨a, h1, l, h2, hh, h3, rfl⟩ := h
      exact ⟨.pure (scS (ev env1 x) (lo.map (ev env1)) (hi.map (ev env1))), by simp only [opOf, hu], R2S.pure hm (by rw [ev_val hE ha h1, optV_ok hE ha h2, optV_ok hE ha h3])⟩
    · rename_i e hu
      simp only [Option.bind_eq_some_iff] at h
      obtain ⟨sz, hsz, h⟩ := h
      have hx := ev_ok hE ha x
      split at h
      · rename_i y he
        rw [he] at hx
        simp only [Option.bind_eq_some_iff] at h
        obtain ⟨n, hn, c, hc, h⟩ := h
        split at h
        · rename_i hb
          simp only [Option.bind_eq_some_iff, Option.map_eq_some_iff] at h
          obtain ⟨l, h2, hh, h3, rfl⟩ := h
          refine ⟨.pure (scL sz (ev env1 x) (lo.map (ev env1)) (hi.map (ev env1))), by simp only [opOf, hu, hsz, Option.map_some], ?_⟩
          refine ⟨fun x z hz => by cases y <;> simp [partE] at hz, ?_⟩
          rintro K ⟨a, b, k1, k2, k3, k4, k5⟩
          rw [optV_ok hE ha h2, optV_ok hE ha h3]
          obtain ⟨v, g1, g2⟩ := part_ok hm hx hc hn (by simp only [Bool.or_eq_true] at hb; exact hb.imp Nat.eq_of_beq_eq_true id) k1 k2 k3 k4
          exact ⟨_, v, m.s, k5, Out.same hm ⟨g1, rfl⟩ g2⟩
        · cases h
      · cases h
    · cases h
  case indexAddr t x i =>
    simp only [op2] at h
    split at h
    · rename_i e hu
      simp only [Option.bind_eq_some_iff] at h
      obtain ⟨sz, hsz, h⟩ := h
      have hx := ev_ok hE ha x
      split at h
      · rename_i y he
        rw [he] at hx
        simp only [Option.bind_eq_some_iff] at h
        obtain ⟨n, hn, h⟩ := h
        split at h
        · rename_i hb
          simp only [Option.map_eq_some_iff] at h
          obtain ⟨a, h1, rfl⟩ := h
          refine ⟨.pure (ia sz (ev env1 x) (ev env1 i)), by simp only [opOf, hu, hsz, Option.map_some], fun x y h => by (unfold elemE at h; split at h <;> cases h), ?_⟩
          rintro K ⟨ik, j, k1, k2, k3⟩
          rw [ev_val hE ha h1, k1]
          obtain ⟨v, g1, g2⟩ := elemE_ok hm hx hn (Nat.eq_of_beq_eq_true hb) k2 ik
          exact ⟨iv j, v, m.s, k3, Out.word hm ⟨g1, rfl⟩ g2⟩
        · cases h
      · cases h
    · cases h
  case index t x i =>
    simp only [op2] at h
    split at h
    · rename_i hu
      simp only [Option.bind_eq_some_iff, Option.map_eq_some_iff] at h
      obtain ⟨a, h1, b, h2, rfl⟩ := h
      exact ⟨.pure (ix (ev env1 x) (ev env1 i)), by simp only [opOf, hu], R2S.pure hm (by rw [ev_val hE ha h1, ev_val hE ha h2])⟩
    · cases h
  case extract x i =>
    simp only [op2] at h
    have hx := ev_ok hE ha x
    split at h
    · rename_i ys he
      rw [he] at hx
      split at h
      · rename_i hb
        cases h
        obtain ⟨us, hu, hy⟩ := hx
        have hlt : i < us.length := by rw [AllY_len hy]; exact Nat.le_of_ble_eq_true hb
        have hex : ex (ev env1 x) i = some us[i] := by rw [hu]; simp [ex, hlt]
        exact ⟨_, rfl, us[i], Out.same hm ⟨hex, rfl⟩ (getD_exE (e := .u ys) ⟨us, hu, hy⟩ hex)⟩
      · cases h
    · cases h
  case call c =>
    obtain ⟨callee, args, argTypes⟩ := c
    simp only [op2] at h
    split at h
    · rename_i f
      split at h
      · rename_i b hb
        split at h
        · cases h
        · rename_i hname
          simp only [Option.bind_eq_some_iff] at h
          obtain ⟨g, hg, h⟩ := h
          exact ⟨.call f (args.toList.map (ev env1)), by simp only [opOf, hb, hname, Bool.false_eq_true, if_false], callE_sound hm (AllV_map hE ha args.toList) h⟩
      · cases h
    · split at h
      · rename_i t x hat hax
        have hx := ev_ok hE ha x
        split at h
        · rename_i hu
          simp only [Option.map_eq_some_iff] at h
          obtain ⟨a, h1, rfl⟩ := h
          exact ⟨.pure (lnS (ev env1 x)), by simp only [opOf, hat, hax, hu], R2S.pure hm (by rw [ev_val hE ha h1])⟩
        · rename_i e hu
          split at h
          · rename_i y he
            rw [he] at hx
            simp only [Option.map_eq_some_iff] at h
            obtain ⟨n, hn, rfl⟩ := h
            obtain ⟨c, hc⟩ := len_cont hm hx hn
            exact ⟨.pure (lnL (ev env1 x)), by simp only [opOf, hat, hax, hu], iv n, Out.same hm ⟨(cont_ok hm hx hc hn).len_ok, rfl⟩ ⟨rfl, rfl⟩⟩
          · cases h
        · cases h
      · cases h
    · split at h
      · rename_i x y hax
        simp only [Option.bind_eq_some_iff, Option.map_eq_some_iff] at h
        obtain ⟨a, h1, b, h2, rfl⟩ := h
        exact ⟨.pure (mn (ev env1 x) (ev env1 y)), by simp only [opOf, hax], R2S.pure hm (by rw [ev_val hE ha h1, ev_val hE ha h2])⟩
      · cases h
    · split at h
      · rename_i t u x y hat hax
        split at h
        · rename_i htu
          split at h
          · rename_i e hu
            simp only [Option.bind_eq_some_iff] at h
            obtain ⟨z, hz, ks, hks, h⟩ := h
            split at h
            · rename_i hc
              simp only [Bool.and_eq_true, decide_eq_true_eq] at hc
              have hx := ev_ok hE ha x
              have hy := ev_ok hE ha y
              split at h
              · rename_i a b he1 he2
                rw [he1] at hx; rw [he2] at hy
                simp only [Option.bind_eq_some_iff, Option.map_eq_some_iff] at h
                obtain ⟨⟨c1, n, ob1, aff⟩, h1, mm, h2, ⟨c2, ob2⟩, h3, rfl⟩ := h
                refine ⟨.mu (ap z.2.1 z.2.2 (ev env1 x) (ev env1 y)), ?_, ?_⟩
                · simp only [opOf, hat, hax, htu, hu, hz, Option.bind_some, if_true]
                  rw [if_pos (by simp only [Bool.and_eq_true, decide_eq_true_eq]; exact hc.1)]
                · rintro K ⟨k1, k2, k3⟩
                  obtain ⟨v, s', A', ho⟩ := ap_out (C := C) hm hc.1.1 hx hy h1 h2 h3 k1 k2
                  exact ⟨_, _, _, v, s', A', k3, ho⟩
              · cases h
            · cases h
          · cases h
        · cases h
      · cases h
    · cases h
  all_goals (simp [op2] at h)
end Go.Proofs.Ytmikdglafmfnfaa.Eng
