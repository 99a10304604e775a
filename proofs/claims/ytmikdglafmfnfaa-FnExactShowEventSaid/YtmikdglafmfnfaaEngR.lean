/- Laws on the reading of arguments: whatever reads as data by its type is a value of the engine's kinds (whole numbers, bools, texts, rows of these, structures field by field), and reads the same behind a call that leaves all that lay before as it was. -/
import Derived.Test.YtmikdglafmfnfaaEngO
import Derived.Deep.Slices
import Derived.OpenShut
import Derived.ChangeArms
import Derived.Carry
namespace Go.Proofs.Ytmikdglafmfnfaa.Open
open Go.ChangeShapes Go.WideShapes Go.RowKit Go.Deep Go.Proofs.Ytmikdglafmfnfaa.Eng
section
variable {H : Type} {enc : TypeId × Value → H} {P : Program} {w : World} {base : Nat} {spare : Nat → Bool} {held : Bool}
/-- Whatever reads by the type t is of the kind d, and G holds of it. -/
def Opens (enc : TypeId × Value → H) (P : Program) (w : World) (base : Nat) (spare : Nat → Bool) (held : Bool) (t : TypeId) {α : Type} (d : Kind α) (G : α → Prop) : Prop :=
  d.sz = P.cellsOf t ∧ ∀ n cs x, DataW.trod enc P w base spare held n t cs = some x → ∃ a, d.K w a cs ∧ G a
theorem opens_int {t : TypeId} {k : IntKind} (ht : P.underlying t = some (.int k)) (hc : P.cellsOf t = 1) : Opens enc P w base spare held t (kInt k) (fun z => (Lit.int k z).wf = true) :=
  ⟨hc.symm, fun n cs x h => by
    obtain ⟨z, rfl, _, hz⟩ := DataW.trod_int ht h
    exact ⟨z, rfl, hz⟩⟩
theorem opens_bool {t : TypeId} (ht : P.underlying t = some .bool) (hc : P.cellsOf t = 1) : Opens enc P w base spare held t kBool (fun _ => True) :=
  ⟨hc.symm, fun n cs x h => by
    obtain ⟨b, rfl, _⟩ := DataW.trod_bool ht h
    exact ⟨b, rfl, trivial⟩⟩
theorem opens_string {t : TypeId} (ht : P.underlying t = some .string) (hc : P.cellsOf t = 1) : Opens enc P w base spare held t kStr (fun s => s.size ≤ maxLen) :=
  ⟨hc.symm, fun n cs x h => by
    obtain ⟨s, rfl, _, hs⟩ := DataW.trod_string ht h
    exact ⟨s, rfl, hs⟩⟩
theorem opens_slice {t e : TypeId} {α : Type} {d : Kind α} {G : α → Prop} (ht : P.underlying t = some (.slice e)) (hc : P.cellsOf t = 1) (ho : Opens enc P w base spare held e d G) (hsz : 0 < d.sz) :
    Opens enc P w base spare held t (kSl d hsz) (fun xs => xs.length ≤ maxLen ∧ ∀ x ∈ xs, G x) :=
  ⟨hc.symm, fun n cs x h => by
    rcases open_slice ht h with ⟨rfl, _⟩ | ⟨a, len, cap, m, k, D, Pl, rfl, _, hl, hm, hmm, _, hx⟩
    · exact ⟨[], ⟨none, 0, rfl, Nat.le_refl 0, fun h => absurd rfl h⟩, Nat.zero_le _, fun x hx => by simp at hx⟩
    have hlm : len ≤ m := by rw [hmm]; split <;> omega
    have each : ∀ i, i < len → ∃ q : α × List Value, q.2.length = d.sz ∧ d.K w q.1 q.2 ∧ G q.1 ∧ ∀ j u, q.2[j]? = some u → w.cell? (a.add (i * d.sz + j)) = some u := by
      intro i hi
      obtain ⟨cs', h1, h2⟩ := hx i (by omega)
      obtain ⟨y, hk, hg⟩ := ho.2 _ _ _ h2
      obtain ⟨_, hlen, hcell⟩ := World.cells?_some h1
      refine ⟨(y, cs'), by rw [hlen, ho.1], hk, hg, fun j u hu => ?_⟩
      have hj : j < cs'.length := by
        rcases Nat.lt_or_ge j cs'.length with hj | hj
        · exact hj
        · rw [List.getElem?_eq_none hj] at hu; cases hu
      have hcj := hcell j (by omega)
      rw [Go.Deep.add_add] at hcj
      rw [ho.1]
      rw [hcj]
      exact hu
    have : ∀ L, L ≤ len → ∃ xs : List α, xs.length = L ∧ (∀ x ∈ xs, G x) ∧ ∀ i y, xs[i]? = some y → ∃ c, c.length = d.sz ∧ d.K w y c ∧ ∀ j u, c[j]? = some u → w.cell? (a.add (i * d.sz + j)) = some u := by
      intro L
      induction L with
      | zero => exact fun _ => ⟨[], rfl, fun x hx => by simp at hx, fun i y hy => by simp at hy⟩
      | succ L ih =>
        intro hL
        obtain ⟨xs, hxl, hxg, hxc⟩ := ih (by omega)
        obtain ⟨q, q1, q2, q3, q4⟩ := each L (by omega)
        refine ⟨xs ++ [q.1], by simp [hxl], ?_, ?_⟩
        · intro x hx
          rcases List.mem_append.1 hx with hx | hx
          · exact hxg x hx
          · rw [List.mem_singleton.1 hx]; exact q3
        · intro i y hy
          rcases Nat.lt_or_ge i xs.length with hi | hi
          · rw [List.getElem?_append_left hi] at hy
            exact hxc i y hy
          · rw [List.getElem?_append_right hi] at hy
            have hi0 : i - xs.length = 0 := by
              rcases Nat.eq_zero_or_pos (i - xs.length) with h0 | h0
              · exact h0
              · rw [List.getElem?_eq_none (by simp; omega)] at hy; cases hy
            rw [hi0] at hy
            have hy' : q.1 = y := by simpa using hy
            subst hy'
            have : i = L := by omega
            subst this
            exact ⟨q.2, q1, q2, q4⟩
    obtain ⟨xs, hxl, hxg, hxc⟩ := this len (Nat.le_refl _)
    exact ⟨xs, ⟨some a, cap, by rw [hxl], by rw [hxl]; exact hl, fun _ => ⟨a, rfl, hxc⟩⟩, by rw [hxl]; omega, hxg⟩⟩
/-- The fields fs, one behind the other from off on, are of the kind d. -/
def OpensF (enc : TypeId × Value → H) (P : Program) (w : World) (base : Nat) (spare : Nat → Bool) (held : Bool) (fs : List Field) (off : Nat) {α : Type} (d : Kind α) (G : α → Prop) : Prop :=
  ∀ (cs : List Value), cs.length = off + d.sz → (∀ f ∈ fs, ∃ n y, DataW.trod enc P w base spare held n f.type ((cs.drop f.offset).take (P.cellsOf f.type)) = some y) → ∃ a, d.K w a (cs.drop off) ∧ G a
theorem opensF_last {f : Field} {off : Nat} {t : TypeId} {α : Type} {d : Kind α} {G : α → Prop} (ho : f.offset = off) (ht : f.type = t) (h : Opens enc P w base spare held t d G) : OpensF enc P w base spare held [f] off d G := by
  intro cs hl hf
  obtain ⟨n, y, hy⟩ := hf f (by simp)
  rw [ho, ht, ← h.1, List.take_of_length_le (by rw [List.length_drop]; omega)] at hy
  exact h.2 _ _ _ hy
theorem opensF_cons {f : Field} {fs : List Field} {off : Nat} {t : TypeId} {α β : Type} {a : Kind α} {b : Kind β} {G : α → Prop} {G' : β → Prop} (ho : f.offset = off) (ht : f.type = t) (h : Opens enc P w base spare held t a G)
    (hr : OpensF enc P w base spare held fs (off + a.sz) b G') : OpensF enc P w base spare held (f :: fs) off (kPair a b) (fun p => G p.1 ∧ G' p.2) := by
  intro cs hl hf
  have hl' : cs.length = off + (a.sz + b.sz) := hl
  obtain ⟨n, y, hy⟩ := hf f (by simp)
  rw [ho, ht, ← h.1] at hy
  obtain ⟨x, kx, gx⟩ := h.2 _ _ _ hy
  obtain ⟨z, kz, gz⟩ := hr cs (by omega) (fun g hg => hf g (by simp [hg]))
  refine ⟨(x, z), ⟨_, _, ?_, kx, kz⟩, gx, gz⟩
  rw [← List.drop_drop, List.take_append_drop]
theorem opens_struct {t : TypeId} {fs : Array Field} {α : Type} {d : Kind α} {G : α → Prop} (ht : P.underlying t = some (.struct fs)) (hs : d.sz = P.cellsOf t) (h : OpensF enc P w base spare held fs.toList 0 d G) : Opens enc P w base spare held t d G :=
  ⟨hs, fun n cs x hx => by
    obtain ⟨xs, m, _, _, hl, hxl, hf⟩ := DataW.trod_struct ht hx
    have := h cs (by omega) (fun f hf' => by
      obtain ⟨i, hi, e⟩ := List.getElem_of_mem hf'
      have hi' : i < fs.size := by simpa using hi
      have e' : fs[i]? = some f := by rw [Array.getElem?_eq_getElem hi']; simpa using e
      have hh := hf i f e'
      rw [List.getElem?_eq_getElem (by omega)] at hh
      exact ⟨m, _, hh⟩)
    simpa using this⟩
theorem opens_iso {t : TypeId} {α β : Type} {d : Kind α} {G : α → Prop} (f : β → α) (g : α → β) (hfg : ∀ a, f (g a) = a) (h : Opens enc P w base spare held t d G) : Opens enc P w base spare held t (kIso d f) (fun b => G (f b)) :=
  ⟨h.1, fun n cs x hx => by
    obtain ⟨a, ka, ga⟩ := h.2 n cs x hx
    exact ⟨g a, by show d.K w (f (g a)) cs; rw [hfg]; exact ka, by show G (f (g a)); rw [hfg]; exact ga⟩⟩
/-- An argument that is no struct: one cell. -/
theorem top_cell {t : TypeId} {α : Type} {d : Kind α} {G : α → Prop} {v : Value} {dd : DataW H} {ps : List MemPlace} (ho : Opens enc P w base spare held t d G) (h : DataW.Trod enc P w base spare held t v dd ps) : ∃ a, d.K w a v.cells.toList ∧ G a := by
  obtain ⟨n, hn⟩ := h
  exact ho.2 _ _ _ hn
theorem cells_one {v u : Value} (h : v.cells.toList = [u]) (hv : ∀ cs, v ≠ .agg cs) : v = u := by
  cases v <;> simp_all [Value.cells]
theorem top_struct {r : Reach} {b0 : Nat} {t : TypeId} {fs : Array Field} {α : Type} {d : Kind α} {G : α → Prop} {v : Value} {dd : DataW H} {ps : List MemPlace} (ht : P.underlying t = some (.struct fs))
    (hv : Value.okWide P w r b0 t v) (ho : Opens enc P w base spare held t d G) (h : DataW.Trod enc P w base spare held t v dd ps) : ∃ a cs, v = .agg ⟨cs⟩ ∧ d.K w a cs ∧ G a := by
  obtain ⟨⟨cs⟩, rfl, _⟩ := okWide_struct ht hv
  obtain ⟨a, ka, ga⟩ := top_cell ho h
  exact ⟨a, cs, rfl, by simpa [Value.cells] using ka, ga⟩
/-- An argument that is no struct and no array is no aggregate. -/
theorem top_one {t : TypeId} {α : Type} {d : Kind α} {G : α → Prop} {v : Value} {dd : DataW H} {ps : List MemPlace} (h1 : d.sz = 1)
    (ho : Opens enc P w base spare held t d G) (hna : ∀ cs, v ≠ .agg cs) (h : DataW.Trod enc P w base spare held t v dd ps) : ∃ a, d.K w a [v] ∧ G a := by
  obtain ⟨a, ka, ga⟩ := top_cell ho h
  have hl := d.K_len ka
  rw [h1] at hl
  obtain ⟨u, hu⟩ : ∃ u, v.cells.toList = [u] := by
    match v.cells.toList, hl with
    | [u], _ => exact ⟨u, rfl⟩
  have := cells_one hu hna
  subst this
  exact ⟨a, by rw [hu] at ka; exact ka, ga⟩
end
end Go.Proofs.Ytmikdglafmfnfaa.Open
