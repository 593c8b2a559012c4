import Derived.Test.YtmdennlkgakfnaaWMore
import Derived.Deep.Slices
import Derived.ChangeSame
import Derived.OpenShut
/-! What comes in, as the printed words take it: out of the reading of an argument, whatever its shape -/
namespace Go.Proofs.YtmdennlkgakfnaaO
open Go.ChangeShapes Go.WideShapes Go.Deep Go.RowKit Go.Proofs.YtmdennlkgakfnaaW.PrintWords
set_option linter.unusedVariables false

/-- Whatever is read at type t has the form that kind d tells. -/
def Op1 (P : Program) (t : TypeId) {α : Type} (d : Kd α) : Prop :=
  ∀ {H : Type} (enc : TypeId × Value → H) (w : World) (spare : Nat → Bool) (held : Bool) (fuel : Nat) (cs : List Value) (x : DataW H × List MemPlace), DataW.trod enc P w 0 spare held fuel t cs = some x → ∃ a, d.K w a cs
section
variable {P : Program}
theorem op_int {t : TypeId} {k : IntKind} (ht : P.underlying t = some (.int k)) : Op1 P t (Kd.int k) := fun enc w spare held fuel cs x h => by
  obtain ⟨n, rfl, _, _⟩ := DataW.trod_int ht h
  exact ⟨n, rfl⟩
theorem op_bool {t : TypeId} (ht : P.underlying t = some .bool) : Op1 P t Kd.bool := fun enc w spare held fuel cs x h => by
  obtain ⟨n, rfl, _⟩ := DataW.trod_bool ht h
  exact ⟨n, rfl⟩
theorem op_string {t : TypeId} (ht : P.underlying t = some .string) : Op1 P t Kd.string := fun enc w spare held fuel cs x h => by
  obtain ⟨n, rfl, _, _⟩ := DataW.trod_string ht h
  exact ⟨n, rfl⟩
theorem op_iso {t : TypeId} {α β : Type} {d : Kd α} (h : Op1 P t d) (f : β → α) (g : α → β) (hfg : ∀ a, f (g a) = a) : Op1 P t (Kd.iso d f) := fun enc w spare held fuel cs x hx => by
  obtain ⟨a, ha⟩ := h enc w spare held fuel cs x hx
  exact ⟨g a, by show d.K w (f (g a)) cs; rw [hfg]; exact ha⟩
theorem op_slice {t e : TypeId} {α : Type} {d : Kd α} (ht : P.underlying t = some (.slice e)) (hC : P.cellsOf e = d.sz) (h : Op1 P e d) : Op1 P t (Kd.slice e d) := fun enc w spare held fuel cs x hx => by
  rcases open_slice ht hx with ⟨rfl, _⟩ | ⟨a, len, cap, m, n, D, Pl, rfl, hb, hl, hm, hmm, _, hi⟩
  · exact ⟨[], none, 0, rfl, Nat.le_refl _, rfl, by simp, fun h => by simp at h⟩
  · have hlm : len ≤ m := by rw [hmm]; split <;> omega
    have each : ∀ i, i < len → ∃ y : α, ∃ c, c.length = d.sz ∧ d.K w y c ∧ ∀ j u, c[j]? = some u → w.cell? (a.add (i * d.sz + j)) = some u := fun i hil => by
      obtain ⟨cs', hc, ht'⟩ := hi i (by omega)
      obtain ⟨y, hy⟩ := h enc w spare held n cs' _ ht'
      obtain ⟨_, hcl, hat⟩ := World.cells?_some hc
      refine ⟨y, cs', by rw [hcl, hC], hy, fun j u hu => ?_⟩
      have hj : j < P.cellsOf e := by rw [← hcl]; exact (List.getElem?_eq_some_iff.1 hu).1
      have := hat j hj
      rw [Go.Deep.add_add, hC] at this
      rw [this, hu]
    have all : ∃ ys : List α, ys.length = len ∧ ∀ j p, ys[j]? = some p → ∃ c, c.length = d.sz ∧ d.K w p c ∧ ∀ i u, c[i]? = some u → w.cell? (a.add (j * d.sz + i)) = some u := by
      have key : ∀ k, k ≤ len → ∃ ys : List α, ys.length = k ∧ ∀ j p, ys[j]? = some p → ∃ c, c.length = d.sz ∧ d.K w p c ∧ ∀ i u, c[i]? = some u → w.cell? (a.add (j * d.sz + i)) = some u := by
        intro k
        induction k with
        | zero => intro _; exact ⟨[], rfl, fun j p hp => by simp at hp⟩
        | succ k ih =>
          intro hk
          obtain ⟨ys, hys, hy⟩ := ih (by omega)
          obtain ⟨y, hc⟩ := each k (by omega)
          refine ⟨ys ++ [y], by simp [hys], fun j p hp => ?_⟩
          by_cases hj : j < ys.length
          · rw [List.getElem?_append_left hj] at hp
            exact hy j p hp
          · rw [List.getElem?_append_right (by omega)] at hp
            have hj0 : j - ys.length = 0 := by
              have := (List.getElem?_eq_some_iff.1 hp).1
              simp at this
              omega
            rw [hj0] at hp
            have : y = p := by simpa using hp
            subst this
            have : j = k := by omega
            subst this
            exact hc
      exact key len (Nat.le_refl _)
    obtain ⟨ys, hys, hy⟩ := all
    refine ⟨ys, some a, cap, by rw [hys], by omega, rfl, ?_, fun _ => ⟨a, rfl, hy⟩⟩
    simp only [maxLen] at hm
    omega
/-- The cells of fields one behind the other. -/
def offs (P : Program) (ts : List TypeId) (i : Nat) : Nat := ((ts.take i).map P.cellsOf).sum
def OpF (P : Program) (ts : List TypeId) {α : Type} (d : Kd α) : Prop :=
  ∀ {H : Type} (enc : TypeId × Value → H) (w : World) (spare : Nat → Bool) (held : Bool) (n : Nat) (cs : List Value), cs.length = offs P ts ts.length →
    (∀ i t, ts[i]? = some t → ∃ x, DataW.trod enc P w 0 spare held n t ((cs.drop (offs P ts i)).take (P.cellsOf t)) = some x) → ∃ a, d.K w a cs
theorem opf_one {t : TypeId} {α : Type} {d : Kd α} (h : Op1 P t d) : OpF P [t] d := fun enc w spare held n cs hl hf => by
  obtain ⟨x, hx⟩ := hf 0 t rfl
  have e : (cs.drop (offs P [t] 0)).take (P.cellsOf t) = cs := by
    simp [offs] at hl ⊢
    exact List.take_of_length_le (by omega)
  rw [e] at hx
  exact h enc w spare held n cs x hx
theorem opf_cons {t : TypeId} {ts : List TypeId} {α β : Type} {a : Kd α} {b : Kd β} (h : Op1 P t a) (k : OpF P ts b) : OpF P (t :: ts) (Kd.pair a b) := fun enc w spare held n cs hl hf => by
  have e1 : offs P (t :: ts) (t :: ts).length = P.cellsOf t + offs P ts ts.length := by simp [offs]
  obtain ⟨x, hx⟩ := hf 0 t rfl
  have e0 : (cs.drop (offs P (t :: ts) 0)).take (P.cellsOf t) = cs.take (P.cellsOf t) := by simp [offs]
  rw [e0] at hx
  obtain ⟨y, hy⟩ := h enc w spare held n _ x hx
  obtain ⟨z, hz⟩ := k enc w spare held n (cs.drop (P.cellsOf t)) (by rw [List.length_drop, hl, e1]; omega) (fun i t' hi => by
    obtain ⟨x', hx'⟩ := hf (i + 1) t' (by simpa using hi)
    refine ⟨x', ?_⟩
    rw [List.drop_drop]
    have e2 : offs P (t :: ts) (i + 1) = P.cellsOf t + offs P ts i := by simp [offs]
    rw [e2] at hx'
    exact hx')
  exact ⟨(y, z), cs.take (P.cellsOf t), cs.drop (P.cellsOf t), (List.take_append_drop _ _).symm, hy, hz⟩
theorem op_struct {t : TypeId} {fs : Array Field} {ts : List TypeId} {α : Type} {d : Kd α} (ht : P.underlying t = some (.struct fs)) (hts : fs.toList.map (fun f => f.type) = ts) (hoff : (List.range fs.size).all (fun i => (fs[i]?.map (fun f => f.offset)) == some (offs P ts i)) = true) (hC : P.cellsOf t = offs P ts ts.length)
    (h : OpF P ts d) : Op1 P t d := fun enc w spare held fuel cs x hx => by
  obtain ⟨xs, n, _, _, hl, hxl, hf⟩ := DataW.trod_struct ht hx
  refine h enc w spare held n cs (by rw [hl, hC]) (fun i t' hi => ?_)
  subst hts
  rw [List.getElem?_map] at hi
  obtain ⟨f, hfi, rfl⟩ := Option.map_eq_some_iff.1 hi
  have hfa : fs[i]? = some f := by simpa using hfi
  have hil : i < fs.size := (Array.getElem?_eq_some_iff.1 hfa).1
  have h1 := hf i f hfa
  have ho : f.offset = offs P (fs.toList.map (fun f => f.type)) i := by
    have := List.all_eq_true.1 hoff i (List.mem_range.2 hil)
    rw [hfa] at this
    simpa using this
  rw [ho] at h1
  have hxs : xs[i]? = some (xs[i]'(by omega)) := List.getElem?_eq_getElem (by omega)
  exact ⟨_, h1.trans hxs⟩
/-- A slice that comes in as a parameter. -/
theorem op_param {H : Type} {enc : TypeId × Value → H} {w : World} {spare : Nat → Bool} {held : Bool} {t e : TypeId} {α : Type} {d : Kd α} {A : Option Addr} {n c : Nat} {dd : DataW H} {p : List MemPlace} (hs : Op1 P t (Kd.slice e d)) (h : DataW.Trod enc P w 0 spare held t (.slice A n c) dd p) :
    ∃ l : List α, n = l.length ∧ l.length ≤ c ∧ d.C w A l.length l := by
  obtain ⟨fuel, hf⟩ := h
  obtain ⟨l, A', c', he, hc, hC⟩ := hs enc w spare held fuel _ _ hf
  simp [Value.cells] at he
  obtain ⟨rfl, rfl, rfl⟩ := he
  exact ⟨l, rfl, hc, hC⟩
end
end Go.Proofs.YtmdennlkgakfnaaO
