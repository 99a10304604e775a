/- Words for walking through a function's text. -/
import Derived.Test.YtmikdglafmfnfaaEngS
namespace Go.Proofs.Ytmikdglafmfnfaa.Eng
open Go Go.RowKit
set_option linter.unusedVariables false
section
variable {K : Value → Q} {s s' : St} {v : Value}
theorem pr_i {r : Option Value} (h : r = some v) (k : K v s) : pr r K s := ⟨v, h, k⟩
theorem mm_i {g : M1} (h : g s = some (v, s')) (k : K v s') : mm g K s := ⟨v, s', h, k⟩
theorem cnd_t {p q : Q} {g : Value} (h : g = .bool true) (k : p s) : cnd g p q s := .inl ⟨h, k⟩
theorem cnd_f {p q : Q} {g : Value} (h : g = .bool false) (k : q s) : cnd g p q s := .inr ⟨h, k⟩
theorem cnd_i {p q : Q} {b : Bool} (ht : b = true → p s) (hf : b = false → q s) : cnd (.bool b) p q s := by
  cases b
  · exact .inr ⟨rfl, hf rfl⟩
  · exact .inl ⟨rfl, ht rfl⟩
theorem gM_on {g : Value} {want : Bool} {m : (Value → Q) → Q} (h : g = .bool want) (k : m K s) : gM g want m K s := .inl ⟨h, k⟩
theorem gM_off {g : Value} {want : Bool} {m : (Value → Q) → Q} (h : g = .bool !want ∨ g = undef) (k : K undef s) : gM g want m K s := .inr ⟨h, k⟩
theorem gM_t {m : (Value → Q) → Q} {b : Bool} (ht : b = true → m K s) (hf : b = false → K undef s) : gM (.bool b) true m K s := by
  cases b
  · exact .inr ⟨.inl rfl, hf rfl⟩
  · exact .inl ⟨rfl, ht rfl⟩
theorem cl_mono {C : Ctx} {f : FuncId} {args : List Value} {K' : Value → Q} (h : cl C f args K s) (hk : ∀ v s', K v s' → K' v s') : cl C f args K' s :=
  let ⟨v, s', g, k⟩ := h; ⟨v, s', g, hk v s' k⟩
theorem mon_i {ws : List Value} {m : (Value → Q) → Q} {K : Value → St → St → Q} (h : m (fun v s' => (∀ w ∈ ws, unch w s s') ∧ K v s s' s') s) : mon ws m K s := h
end
/-- Nothing that was there has changed. -/
structure Ext (s s' : St) : Prop where
  n : s.n ≤ s'.n
  get : ∀ h, h < s.n → s'.get h = s.get h
theorem Ext.refl (s : St) : Ext s s := ⟨Nat.le_refl _, fun _ _ => rfl⟩
theorem Ext.trans {a b c : St} (h : Ext a b) (k : Ext b c) : Ext a c := ⟨Nat.le_trans h.n k.n, fun x hx => (k.get x (Nat.lt_of_lt_of_le hx h.n)).trans (h.get x hx)⟩
theorem Ext.push (s : St) (ob : Ob) : Ext s (s.push ob) := ⟨by rw [St.push_n]; omega, fun h hh => by rw [St.get_push, if_neg (by omega)]⟩
theorem Ext.some {s s' : St} (h : Ext s s') {x : Nat} {ob : Ob} (hx : s.get x = some ob) : s'.get x = some ob := by rw [h.get x (St.get_lt hx)]; exact hx
/-! ### Reading -/
theorem ld_cell {s : St} {h o : Nat} {ob : Ob} {c : Value} (hg : s.get h = some ob) (hc : ob.cells[o]? = some c) : ld false 1 (pt h o) s = some (c, s) := by
  have hlt : o < ob.cells.length := (List.getElem?_eq_some_iff.1 hc).1
  have hcs : (ob.cells.drop o).take 1 = [c] := by
    rw [List.take_one, List.head?_drop, hc]; rfl
  simp only [ld, pt, hg, Option.bind_some, rdCells, if_pos (show o + 1 ≤ ob.cells.length by omega), hcs]
theorem ld_agg {s : St} {h o sz : Nat} {ob : Ob} {cs : List Value} (hg : s.get h = some ob) (hl : o + sz ≤ ob.cells.length) (hc : (ob.cells.drop o).take sz = cs) : ld true sz (pt h o) s = some (.agg cs.toArray, s) := by
  simp only [ld, pt, hg, Option.bind_some, rdCells, if_pos hl, hc]
/-- v is a slice of elements of sz cells that holds these cells. -/
def Sl (s : St) (sz : Nat) (v : Value) (n : Nat) (cells : List Value) : Prop :=
  cells.length = n * sz ∧ ((v = nl ∧ n = 0) ∨ ∃ h off ob, v = sl h off n sz ∧ s.get h = some ob ∧ off + n * sz ≤ ob.cells.length ∧ (ob.cells.drop off).take (n * sz) = cells)
theorem Sl.ext {s s' : St} {sz n : Nat} {v : Value} {cells : List Value} (h : Sl s sz v n cells) (he : Ext s s') : Sl s' sz v n cells := by
  obtain ⟨h1, h2⟩ := h
  refine ⟨h1, h2.imp id ?_⟩
  rintro ⟨x, off, ob, h3, h4, h5⟩
  exact ⟨x, off, ob, h3, he.some h4, h5⟩
theorem Sl.nil (s : St) (sz : Nat) : Sl s sz nl 0 [] := ⟨by simp, .inl ⟨rfl, rfl⟩⟩
theorem Sl.len {s : St} {sz n : Nat} {v : Value} {cells : List Value} (h : Sl s sz v n cells) : lnL v = some (.int .i64 n) := by
  rcases h.2 with ⟨rfl, rfl⟩ | ⟨x, off, ob, rfl, _⟩ <;> rfl
/-- An element's address, and what lies there. -/
theorem Sl.at {s : St} {sz n : Nat} {v : Value} {cells : List Value} (h : Sl s sz v n cells) {i : Nat} (hi : i < n) : ∃ x off ob, (∀ k, ia sz v (.int k (i : Int)) = some (pt x (off + i * sz))) ∧ s.get x = some ob ∧ off + n * sz ≤ ob.cells.length ∧ ∀ f, f < sz → ob.cells[off + i * sz + f]? = cells[i * sz + f]? := by
  rcases h.2 with ⟨rfl, rfl⟩ | ⟨x, off, ob, rfl, h1, h2, h3⟩
  · omega
  · refine ⟨x, off, ob, fun k => ?_, h1, h2, fun f hf => ?_⟩
    · have : (0 : Int) ≤ (i : Int) ∧ (i : Int) < (n : Int) := by omega
      simp only [ia, sl, this, and_self, if_true, Int.toNat_natCast]
    · have hb : i * sz + f < n * sz := by
        have : (i + 1) * sz ≤ n * sz := Nat.mul_le_mul_right _ hi
        rw [Nat.add_mul] at this; omega
      rw [← h3, List.getElem?_take_of_lt hb, List.getElem?_drop]
      congr 1; omega
/-- A row of elements, each of which R reads in its cells. -/
def Rd {α : Type} (s : St) (sz : Nat) (R : α → List Value → Prop) (v : Value) (xs : List α) : Prop :=
  ∃ cells, Sl s sz v xs.length cells ∧ ∀ (i : Nat) x, xs[i]? = some x → R x ((cells.drop (i * sz)).take sz)
theorem Rd.ext {α : Type} {s s' : St} {sz : Nat} {R R' : α → List Value → Prop} {v : Value} {xs : List α} (h : Rd s sz R v xs) (he : Ext s s') (hr : ∀ x cs, R x cs → R' x cs) : Rd s' sz R' v xs :=
  let ⟨cells, h1, h2⟩ := h; ⟨cells, h1.ext he, fun i x hx => hr _ _ (h2 i x hx)⟩
theorem Rd.len {α : Type} {s : St} {sz : Nat} {R : α → List Value → Prop} {v : Value} {xs : List α} (h : Rd s sz R v xs) : lnL v = some (.int .i64 xs.length) := h.choose_spec.1.len
theorem Rd.at {α : Type} {s : St} {sz : Nat} {R : α → List Value → Prop} {v : Value} {xs : List α} (h : Rd s sz R v xs) {i : Nat} {x : α} (hx : xs[i]? = some x) : ∃ b o ob cs, (∀ k, ia sz v (.int k (i : Int)) = some (pt b o)) ∧ s.get b = some ob ∧ R x cs ∧ cs.length = sz ∧ o + sz ≤ ob.cells.length ∧ (ob.cells.drop o).take sz = cs ∧ ∀ (f : Nat) c, cs[f]? = some c → ob.cells[o + f]? = some c := by
  obtain ⟨cells, h1, h2⟩ := h
  have hi : i < xs.length := (List.getElem?_eq_some_iff.1 hx).1
  obtain ⟨b, off, ob, g1, g2, g3, g4⟩ := h1.at hi
  have hle : i * sz + sz ≤ xs.length * sz := by
    have : (i + 1) * sz ≤ xs.length * sz := Nat.mul_le_mul_right _ hi
    rw [Nat.add_mul] at this; omega
  have hcl : ((cells.drop (i * sz)).take sz).length = sz := by rw [List.length_take, List.length_drop, h1.1]; omega
  have hsame : (ob.cells.drop (off + i * sz)).take sz = (cells.drop (i * sz)).take sz := by
    apply List.ext_getElem?
    intro f
    by_cases hf : f < sz
    · rw [List.getElem?_take_of_lt hf, List.getElem?_take_of_lt hf, List.getElem?_drop, List.getElem?_drop, g4 f hf]
    · rw [List.getElem?_eq_none (by rw [List.length_take]; omega), List.getElem?_eq_none (by rw [List.length_take]; omega)]
  refine ⟨b, off + i * sz, ob, _, g1, g2, h2 i x hx, hcl, by omega, hsame, fun f c hc => ?_⟩
  have hf : f < sz := by rw [← hcl]; exact (List.getElem?_eq_some_iff.1 hc).1
  rw [g4 f hf]
  rwa [List.getElem?_take_of_lt hf, List.getElem?_drop] at hc
/-- The elements of one cell. -/
def Ints (s : St) (v : Value) (xs : List Int) : Prop := Rd s 1 (fun x cs => cs = [.int .i64 x]) v xs
def Strs (s : St) (v : Value) (xs : List ByteArray) : Prop := Rd s 1 (fun x cs => cs = [.string x]) v xs
theorem Ints.ext {s s' : St} {v : Value} {xs : List Int} (h : Ints s v xs) (he : Ext s s') : Ints s' v xs := Rd.ext h he fun _ _ h => h
theorem Strs.ext {s s' : St} {v : Value} {xs : List ByteArray} (h : Strs s v xs) (he : Ext s s') : Strs s' v xs := Rd.ext h he fun _ _ h => h
end Go.Proofs.Ytmikdglafmfnfaa.Eng
