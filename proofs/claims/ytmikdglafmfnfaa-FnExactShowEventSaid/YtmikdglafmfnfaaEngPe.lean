/- The pure engine's truth: reading slices, and writing into trees. -/
import Derived.Test.YtmikdglafmfnfaaEngPd
import Derived.Test.YtmikdglafmfnfaaEngC
namespace Go.Proofs.Ytmikdglafmfnfaa.Eng
open Go Go.RowKit
set_option linter.unusedVariables false
set_option linter.unusedSimpArgs false
theorem cnt_eq {e n : Nat} {cs : List T} (he : 0 < e) (h : cs.length = n * e) : cnt e cs = n := by
  unfold cnt
  split
  · rw [h, Nat.mul_one]
  · rw [h, Nat.mul_div_cancel _ he]
/-- A slice's cells. -/
structure Cont (m : Mst) (k : Option Nat) (e n : Nat) (c : List T) (u : Value) : Prop where
  len : c.length = n * e
  at_ : (u = nl ∧ n = 0 ∧ c = []) ∨ ∃ h b F own, u = sl h b n e ∧ Win m.s own c h b F ∧ ∃ k', k = some k' ∧ F.Sublist (m.A k').F
def rootO : E0 → Option Nat
  | .t k _ => some k
  | .s k _ _ _ _ => some k
  | .n k _ _ => some k
  | _ => none
theorem Mem.node {B : Bas} {ro : List (List T)} {m : Mst} (hm : Mem B ro m) {k : Nat} {own : Bool} {cs ds : List T} {pre : List Nat} {h b : Nat} (hl : look2 ro m.ob k = some (.ls own cs)) (hnil : (m.A k).nil = false) (hn : Eng.node cs pre = some ds)
    (hs : spot m.s (m.A k).h (m.A k).b pre = some (h, b)) : ∃ F, Win m.s own ds h b F ∧ F.Sublist (m.A k).F := by
  rcases hm.obr k _ hl with ⟨h1, _⟩ | ⟨_, hw⟩
  · rw [hnil] at h1; cases h1
  · rcases hw.node hn with ⟨_, _, h3⟩ | ⟨h', b', F', h1, h2, h3⟩
    · rw [h3] at hs; cases hs
    · rw [h1] at hs; cases hs; exact ⟨F', h2, h3⟩
theorem cont_ok {B : Bas} {ro : List (List T)} {m : Mst} (hm : Mem B ro m) {x : E0} {e n : Nat} {c : List T} {u : Value} (hr : E0R ro m x u) (hc : contE ro m.ob x e = some c) (hn : lenE ro m.ob x = some n) : Cont m (rootO x) e n c u := by
  cases x with
  | z =>
    simp only [contE, lenE, Option.some.injEq] at hc hn
    subst hc; subst hn
    exact ⟨by simp, .inl ⟨hr, rfl, rfl⟩⟩
  | t k e' =>
    simp only [contE, lenE] at hc hn
    split at hc
    · rename_i hb
      have := Nat.eq_of_beq_eq_true hb; subst this
      split at hc
      · rename_i own cs hl
        rw [hl] at hn
        simp only [Option.some.injEq] at hc hn
        subst hc; subst hn
        obtain ⟨hlt, hone, hpos, hr⟩ := hr
        rcases hr own cs hl with ⟨rfl, hnil⟩ | ⟨n', hnil, hlen, rfl⟩
        · have : cs = [] := by
            rcases hm.obr k _ hl with ⟨_, h2, _⟩ | ⟨h2, _⟩
            · exact h2
            · rw [hnil] at h2; cases h2
          subst this
          have h0 : cnt e ([] : List T) = 0 := cnt_eq (n := 0) hpos (by simp)
          exact ⟨by rw [h0]; simp, .inl ⟨rfl, h0, rfl⟩⟩
        · have h0 := cnt_eq hpos hlen
          refine ⟨by rw [h0]; exact hlen, .inr ?_⟩
          obtain ⟨F, hw, hF⟩ := hm.node hl hnil (pre := []) rfl rfl
          exact ⟨_, _, F, own, by rw [h0], hw, k, rfl, hF⟩
      · cases hc
    · cases hc
  | s k pre off n' e' =>
    simp only [contE, lenE] at hc hn
    split at hc
    · rename_i hb
      have := Nat.eq_of_beq_eq_true hb; subst this
      split at hc
      · rename_i own cs hl
        rw [hl] at hn
        simp only [Option.some.injEq] at hc hn
        subst hc; subst hn
        obtain ⟨hlt, hone, hr⟩ := hr
        rcases hr own cs hl with ⟨rfl, rfl⟩ | ⟨ds, h, b, h1, h2, h3, h4, rfl⟩
        · have : sub2 cs pre off (0 * e) = [] := by
            unfold sub2; split <;> simp
          rw [this]; exact ⟨by simp, .inl ⟨rfl, rfl, rfl⟩⟩
        · have hsub : sub2 cs pre off (n' * e) = (ds.drop off).take (n' * e) := by unfold sub2; rw [h1]
          obtain ⟨F, hw, hF⟩ := hm.node hl h3 h1 h4
          obtain ⟨F', hw', hF'⟩ := hw.sub h2
          rw [hsub]
          refine ⟨by rw [List.length_take, List.length_drop]; omega, .inr ⟨h, b + off, F', own, rfl, hw', k, rfl, hF'.trans hF⟩⟩
      · cases hc
    · cases hc
  | n k pre e' =>
    simp only [contE, lenE] at hc hn
    split at hc
    · rename_i hb
      have := Nat.eq_of_beq_eq_true hb; subst this
      split at hc
      · rename_i own cs hl
        rw [hl] at hn
        simp only [Option.some.injEq] at hc hn
        subst hc; subst hn
        obtain ⟨hlt, hone, hpos, hr⟩ := hr
        obtain ⟨ds, h1, hr⟩ := hr own cs hl
        have hsub : subN cs pre = ds := by unfold subN; rw [h1]
        rw [hsub]
        rcases hr with ⟨rfl, rfl⟩ | ⟨n', h, b, h3, h4, h5, rfl⟩
        · have h0 : cnt e ([] : List T) = 0 := cnt_eq (n := 0) hpos (by simp)
          exact ⟨by rw [h0]; simp, .inl ⟨rfl, h0, rfl⟩⟩
        · have h0 := cnt_eq hpos h5
          obtain ⟨F, hw, hF⟩ := hm.node hl h3 h1 h4
          exact ⟨by rw [h0]; exact h5, .inr ⟨h, b, F, own, by rw [h0], hw, k, rfl, hF⟩⟩
      · cases hc
    · cases hc
  | _ => simp [lenE] at hn
theorem Cont.len_ok {m : Mst} {k : Option Nat} {e n : Nat} {c : List T} {u : Value} (h : Cont m k e n c u) : lnL u = some (iv n) := by
  rcases h.at_ with ⟨rfl, rfl, _⟩ | ⟨x, b, F, own, rfl, _⟩ <;> rfl
/-- The cells that the machine has of them. -/
theorem Win.vals {s : St} {own : Bool} {c : List T} {h b : Nat} {F : List Nat} (hw : Win s own c h b F) : ∃ ob us F', s.get h = some ob ∧ rdCells ob b c.length = some us ∧ TRs s own c us F' ∧ us.length = c.length ∧ F = h :: F' ∧ (own = true → ob.own = true) ∧ us = (ob.cells.drop b).take c.length ∧ b + c.length ≤ ob.cells.length := by
  obtain ⟨ob, F', h1, h2, h3, h4, rfl⟩ := hw
  exact ⟨ob, _, F', h1, by unfold rdCells; rw [if_pos h3], h4, TRs_len h4, rfl, h2, rfl, h3⟩
theorem Cont.got {m : Mst} {k : Option Nat} {e n : Nat} {c : List T} {u : Value} (h : Cont m k e n c u) : ∃ us F own, m.s.got e u = some us ∧ TRs m.s own c us F := by
  rcases h.at_ with ⟨rfl, rfl, rfl⟩ | ⟨x, b, F, own, rfl, hw, _⟩
  · exact ⟨[], [], true, rfl, rfl, rfl⟩
  · obtain ⟨ob, us, F', h1, h2, h3, h4, _⟩ := hw.vals
    by_cases h0 : n = 0
    · subst h0
      have hc : c = [] := List.eq_nil_of_length_eq_zero (by rw [h.len]; simp)
      subst hc
      exact ⟨[], [], true, by simp [St.got, sl], rfl, rfl⟩
    · rw [h.len] at h2
      exact ⟨us, F', own, by simp only [St.got, sl, h0, if_false, if_true, h1, Option.bind_some]; exact h2, h3⟩
theorem ix_ok {m : Mst} {k : Option Nat} {e n j : Nat} {c : List T} {u : Value} (h : Cont m k e n c u) (hj : j < n) (ik : IntKind) : ∃ x b, u = sl x b n e ∧ ia e u (.int ik (Int.ofNat j)) = some (pt x (b + j * e)) := by
  rcases h.at_ with ⟨rfl, rfl, _⟩ | ⟨x, b, F, own, rfl, _⟩
  · omega
  · refine ⟨x, b, rfl, ?_⟩
    have : (0 : Int) ≤ Int.ofNat j ∧ Int.ofNat j < (n : Int) := by simp; omega
    simp only [ia, sl, this, and_self, if_true, pt]
    rfl
/-! ### Elements -/
theorem node_app : ∀ {pre : List Nat} {cs ds es : List T} {off e : Nat}, node cs pre = some ds → ds[off]? = some (.l e es) → node cs (pre ++ [off]) = some es
  | [], cs, ds, es, off, e, h, hd => by
    simp only [Eng.node, Option.some.injEq] at h; subst h
    simp only [List.nil_append, Eng.node, hd]
  | i :: r, cs, ds, es, off, e, h, hd => by
    simp only [Eng.node] at h
    split at h
    · rename_i e' es' hi
      simp only [List.cons_append, Eng.node, hi]
      exact node_app h hd
    · cases h
theorem spot_app {s : St} : ∀ {pre : List Nat} {h b h1 b1 h2 b2 n e off : Nat} {ob : Ob}, spot s h b pre = some (h1, b1) → s.get h1 = some ob → ob.cells[b1 + off]? = some (sl h2 b2 n e) → spot s h b (pre ++ [off]) = some (h2, b2)
  | [], h, b, h1, b1, h2, b2, n, e, off, ob, hs, hg, hc => by
    simp only [spot, Option.some.injEq, Prod.mk.injEq] at hs
    obtain ⟨rfl, rfl⟩ := hs
    simp only [List.nil_append, spot, hg, hc, sl]
  | i :: r, h, b, h1, b1, h2, b2, n, e, off, ob, hs, hg, hc => by
    simp only [spot] at hs
    split at hs
    · rename_i ob' hg'
      split at hs
      · rename_i x y _ _ hc'
        simp only [List.cons_append, spot, hg', hc']
        exact spot_app hs hg hc
      · cases hs
    · cases hs
/-- What is known of an element's cell. -/
theorem elem_ok {B : Bas} {ro : List (List T)} {m : Mst} (hm : Mem B ro m) {k off : Nat} {pre : List Nat} {u : Value} {own : Bool} {cs : List T} (hr : E0R ro m (.e k pre off) u) (hl : look2 ro m.ob k = some (.ls own cs)) :
    ∃ ds h b F, node cs pre = some ds ∧ (m.A k).nil = false ∧ spot m.s (m.A k).h (m.A k).b pre = some (h, b) ∧ u = pt h (b + off) ∧ Win m.s own ds h b F ∧ F.Sublist (m.A k).F := by
  obtain ⟨hlt, hone, hr⟩ := hr
  obtain ⟨ds, h, b, h1, h3, h4, rfl⟩ := hr own cs hl
  obtain ⟨F, hw, hF⟩ := hm.node hl h3 h1 h4
  exact ⟨ds, h, b, F, h1, h3, h4, rfl, hw, hF⟩
theorem cellT {ds cs : List T} {pre : List Nat} {off : Nat} {t : T} (hn : node cs pre = some ds) (h : cell cs pre off = some t) : ds[off]? = some t := by
  unfold cell at h; rw [hn] at h; exact h
theorem Win.cell {s : St} {own : Bool} {ds : List T} {h b off : Nat} {F : List Nat} {t : T} (hw : Win s own ds h b F) (ht : ds[off]? = some t) : ∃ ob u F', s.get h = some ob ∧ ob.cells[b + off]? = some u ∧ TR s own t u F' ∧ F'.Sublist F := by
  obtain ⟨ob, F1, h1, h2, h3, h4, rfl⟩ := hw
  obtain ⟨u, F', hu, ht', hs⟩ := TRs_get h4 ht
  rw [win_at _ _ _ _ (List.getElem?_eq_some_iff.1 ht).1] at hu
  exact ⟨ob, u, F', h1, hu, ht', hs.cons _⟩
theorem loadC {B : Bas} {ro : List (List T)} {m : Mst} (hm : Mem B ro m) {k off : Nat} {pre : List Nat} {u v : Value} {own : Bool} {cs : List T} (hr : E0R ro m (.e k pre off) u) (hl : look2 ro m.ob k = some (.ls own cs)) (hc : cell cs pre off = some (.c v)) : ld false 1 u m.s = some (v, m.s) ∧ plain v = true := by
  obtain ⟨ds, h, b, F, h1, h2, h3, rfl, hw, hF⟩ := elem_ok hm hr hl
  obtain ⟨ob, w, F', g1, g2, g3, g4⟩ := hw.cell (cellT h1 hc)
  simp only [TR] at g3
  obtain ⟨rfl, g5, _⟩ := g3
  exact ⟨ld_cell g1 g2, g5⟩
theorem sliceR {B : Bas} {ro : List (List T)} {m : Mst} (hm : Mem B ro m) {k off e : Nat} {pre : List Nat} {own own' : Bool} {cs ds es : List T} {h b : Nat} {ob : Ob} {w : Value} {F' : List Nat} (hl : look2 ro m.ob k = some (.ls own cs)) (h1 : node cs pre = some ds) (h2 : (m.A k).nil = false)
    (h3 : spot m.s (m.A k).h (m.A k).b pre = some (h, b)) (hc : ds[off]? = some (.l e es)) (he : 0 < e) (g1 : m.s.get h = some ob) (g2 : ob.cells[b + off]? = some w) (g3 : TR m.s own' (.l e es) w F') : E0R ro m (.n k (pre ++ [off]) e) w := by
  have hn := node_app h1 hc
  refine ⟨look2_lt hm.kok hl, ?_, he, fun own2 cs2 hl2 => ?_⟩
  · rcases TR_l.1 g3 with ⟨rfl, _⟩ | ⟨_, _, _, rfl, _⟩ <;> rfl
  · rw [hl] at hl2; cases hl2
    refine ⟨es, hn, ?_⟩
    rcases TR_l.1 g3 with ⟨rfl, rfl, _⟩ | ⟨h', b', n', rfl, hlen, _⟩
    · exact .inl ⟨rfl, rfl⟩
    · exact .inr ⟨n', h', b', h2, spot_app h3 g1 g2, hlen, rfl⟩
theorem loadL {B : Bas} {ro : List (List T)} {m : Mst} (hm : Mem B ro m) {k off e : Nat} {pre : List Nat} {u : Value} {own : Bool} {cs es : List T} (he : 0 < e) (hr : E0R ro m (.e k pre off) u) (hl : look2 ro m.ob k = some (.ls own cs)) (hc : cell cs pre off = some (.l e es)) :
    ∃ v, ld false 1 u m.s = some (v, m.s) ∧ E0R ro m (.n k (pre ++ [off]) e) v := by
  obtain ⟨ds, h, b, F, h1, h2, h3, rfl, hw, hF⟩ := elem_ok hm hr hl
  obtain ⟨ob, w, F', g1, g2, g3, g4⟩ := hw.cell (cellT h1 hc)
  exact ⟨w, ld_cell g1 g2, sliceR hm hl h1 h2 h3 (cellT h1 hc) he g1 g2 g3⟩
def posK : List CK → Prop
  | [] => True
  | .c :: r => posK r
  | .l e :: r => 0 < e ∧ posK r
theorem posK_app : ∀ {a b : List CK}, posK a → posK b → posK (a ++ b)
  | [], b, _, h => h
  | .c :: r, b, h, h2 => posK_app (a := r) h h2
  | .l e :: r, b, h, h2 => ⟨h.1, posK_app h.2 h2⟩
theorem posK_rep {a : List CK} (h : posK a) : ∀ {n : Nat}, posK (List.replicate n a).flatten
  | 0 => trivial
  | n + 1 => by rw [List.replicate_succ, List.flatten_cons]; exact posK_app h (posK_rep h)
theorem kindsT_pos {P : Program} : ∀ {n : Nat} {t : TypeId} {ks : List CK}, kindsT P n t = some ks → posK ks
  | 0, t, ks, h => by simp [kindsT] at h
  | n + 1, t, ks, h => by
    simp only [kindsT] at h
    split at h
    · cases h; trivial
    · cases h; trivial
    · cases h; trivial
    · simp only [Option.bind_eq_some_iff] at h
      obtain ⟨sz, _, h⟩ := h
      cases sz with
      | zero => simp at h
      | succ sz => simp only [Option.some.injEq] at h; subst h; exact ⟨Nat.succ_pos _, trivial⟩
    · rename_i fs _
      generalize fs.toList = l at h
      induction l generalizing ks with
      | nil => simp only [kindsF, Option.some.injEq] at h; subst h; trivial
      | cons f r ih =>
        simp only [kindsF, Option.bind_eq_some_iff, Option.map_eq_some_iff] at h
        obtain ⟨a, h1, b, h2, rfl⟩ := h
        exact posK_app (kindsT_pos h1) (ih _ h2)
    · simp only [Option.map_eq_some_iff] at h
      obtain ⟨a, h1, rfl⟩ := h
      exact posK_rep (kindsT_pos h1)
    · cases h
theorem mkG_ok {B : Bas} {ro : List (List T)} {m : Mst} (hm : Mem B ro m) {k : Nat} {pre : List Nat} {own : Bool} {cs ds : List T} {h b : Nat} {ob : Ob} (hl : look2 ro m.ob k = some (.ls own cs)) (h1 : node cs pre = some ds) (h2 : (m.A k).nil = false)
    (h3 : spot m.s (m.A k).h (m.A k).b pre = some (h, b)) (g1 : m.s.get h = some ob) {ts0 : List T} {off : Nat} : ∀ (ks : List CK) (j : Nat) (ts : List T) (us : List Value) (F : List Nat), posK ks → ckOk ks ts = true → TRs m.s own ts us F →
      (∀ i t, ts[i]? = some t → ts0[j + i]? = some t ∧ ds[off + (j + i)]? = some t) → (∀ i u, us[i]? = some u → ob.cells[b + (off + (j + i))]? = some u) → AllE (E0R ro m) (mkG k pre off ts0 ks j) us
  | [], j, ts, us, F, hp, hc, ht, hx, hu => by
    cases ts with
    | nil => simp only [TRs] at ht; rw [ht.1]; trivial
    | cons t r => simp [ckOk] at hc
  | .c :: ks, j, ts, us, F, hp, hc, ht, hx, hu => by
    cases ts with
    | nil => simp [ckOk] at hc
    | cons t r =>
      cases t with
      | l e es => simp [ckOk] at hc
      | c v =>
        simp only [ckOk] at hc
        simp only [TRs] at ht
        obtain ⟨u, us', F1, F2, rfl, h4, h5, rfl⟩ := ht
        simp only [TR] at h4
        refine ⟨?_, mkG_ok hm hl h1 h2 h3 g1 ks (j + 1) r us' F2 hp hc h5 (fun i t hi => ?_) (fun i w hi => ?_)⟩
        · have := (hx 0 (.c v) rfl).1
          rw [Nat.add_zero] at this
          have hv : nxT ts0 j = .c v := by unfold nxT; rw [List.getD_eq_getElem?_getD, this]; rfl
          rw [hv]; exact ⟨h4.1, h4.2.1⟩
        · have := hx (i + 1) t (by simpa using hi)
          rw [show j + 1 + i = j + (i + 1) by omega]; exact this
        · have := hu (i + 1) w (by simpa using hi)
          rw [show j + 1 + i = j + (i + 1) by omega]; exact this
  | .l e :: ks, j, ts, us, F, hp, hc, ht, hx, hu => by
    cases ts with
    | nil => simp [ckOk] at hc
    | cons t r =>
      cases t with
      | c v => simp [ckOk] at hc
      | l e' es =>
        simp only [ckOk, Bool.and_eq_true] at hc
        have := Nat.eq_of_beq_eq_true hc.1; subst this
        simp only [TRs] at ht
        obtain ⟨u, us', F1, F2, rfl, h4, h5, rfl⟩ := ht
        refine ⟨?_, mkG_ok hm hl h1 h2 h3 g1 ks (j + 1) r us' F2 hp.2 hc.2 h5 (fun i t hi => ?_) (fun i w hi => ?_)⟩
        · have a1 := (hx 0 (.l e es) rfl).2
          have a2 := hu 0 u rfl
          rw [Nat.add_zero] at a1 a2
          exact sliceR hm hl h1 h2 h3 a1 hp.1 g1 a2 h4
        · have := hx (i + 1) t (by simpa using hi)
          rw [show j + 1 + i = j + (i + 1) by omega]; exact this
        · have := hu (i + 1) w (by simpa using hi)
          rw [show j + 1 + i = j + (i + 1) by omega]; exact this
theorem ckOk_len : ∀ {ks : List CK} {ts : List T}, ckOk ks ts = true → ts.length = ks.length
  | [], [], _ => rfl
  | .c :: r, .c _ :: ts, h => by simp only [ckOk] at h; simp [ckOk_len h]
  | .l e :: r, .l e' _ :: ts, h => by simp only [ckOk, Bool.and_eq_true] at h; simp [ckOk_len h.2]
  | [], _ :: _, h => by simp [ckOk] at h
  | .c :: _, [], h => by simp [ckOk] at h
  | .l _ :: _, [], h => by simp [ckOk] at h
  | .c :: _, .l _ _ :: _, h => by simp [ckOk] at h
  | .l _ :: _, .c _ :: _, h => by simp [ckOk] at h
theorem loadG {B : Bas} {ro : List (List T)} {m : Mst} (hm : Mem B ro m) {k off : Nat} {pre : List Nat} {u : Value} {own : Bool} {cs ts : List T} {ks : List CK} (hp : posK ks) (hpos : 0 < ks.length) (hr : E0R ro m (.e k pre off) u) (hl : look2 ro m.ob k = some (.ls own cs))
    (hts : sub2 cs pre off ks.length = ts) (hck : ckOk ks ts = true) : ∃ us : List Value, ld true ks.length u m.s = some (.agg us.toArray, m.s) ∧ AllE (E0R ro m) (mkG k pre off ts ks 0) us := by
  obtain ⟨ds, h, b, F, h1, h2, h3, rfl, hw, hF⟩ := elem_ok hm hr hl
  have hsub : ts = (ds.drop off).take ks.length := by rw [← hts]; unfold sub2; rw [h1]
  have hlen := ckOk_len hck
  have hle : off + ks.length ≤ ds.length := by
    rw [hsub, List.length_take, List.length_drop] at hlen; omega
  obtain ⟨ob, us, F', g1, g2, g3, g4, g5, g6, g7, g8⟩ := hw.vals
  obtain ⟨Fa, Fb, Fc, g9, k1, k2, k3⟩ := TRs_mid g3 off ks.length
  rw [← hsub] at k2
  refine ⟨(us.drop off).take ks.length, ?_, ?_⟩
  · refine ld_agg g1 (by omega) ?_
    rw [g7, win_sub _ _ _ _ _ hle]
  · refine mkG_ok hm hl h1 h2 h3 g1 ks 0 ts _ _ hp hck k2 (fun i t hi => ?_) (fun i w hi => ?_)
    · rw [Nat.zero_add]
      refine ⟨hi, ?_⟩
      have hi' := hi
      rw [hsub] at hi'
      rw [← win_at ds off ks.length i (by rw [← hlen]; exact (List.getElem?_eq_some_iff.1 hi).1)]
      exact hi'
    · rw [Nat.zero_add]
      have hlt : i < ks.length := by
        have := (List.getElem?_eq_some_iff.1 hi).1
        rw [List.length_take] at this; omega
      rw [win_at _ _ _ _ hlt, g7, win_at _ _ _ _ (by omega)] at hi
      rw [← hi]
end Go.Proofs.Ytmikdglafmfnfaa.Eng
