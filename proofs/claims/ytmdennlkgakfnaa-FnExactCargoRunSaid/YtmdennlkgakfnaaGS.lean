import Derived.Test.YtmdennlkgakfnaaGC
import Derived.Test.YtmdennlkgakfnaaGP
namespace Go.Proofs.Ytmdennlkgakfnaa.C
open Go.RowKit Go.Proofs.YtmdennlkgakfnaaW.PrintWords Go.Proofs.YtmdennlkgakfnaaW.PrintLast Go.Proofs.YtmdennlkgakfnaaW.PrintMore
set_option linter.unusedVariables false
set_option linter.unusedSimpArgs false

theorem spec_l1In.is (a b c : Int) : spec_l1In.f a b c = some (inB a b c) := by
  unfold spec_l1In.f inB
  by_cases h : a ≥ b
  · rw [if_pos h]; congr 1; rw [Bool.eq_iff_iff]; simp; omega
  · rw [if_neg h]; congr 1; rw [Bool.eq_iff_iff]; simp; omega
theorem sin_calls (a b c : Int) (w : World) : Calls Try.prog 110 #[.int .i64 a, .int .i64 b, .int .i64 c] w fun e w' => e = .returned (.bool (inB a b c)) ∧ ∃ n, w' = w.drewN n :=
  (spec_l1In.calls a b c _ w (spec_l1In.is a b c)).mono fun e w' ⟨he, ⟨hd⟩⟩ => ⟨he, hd⟩
theorem tankBad_eq (x : S116) : tankBad x = (!inB x.f0 0 x.f1 || decide (x.f1 > 100000) || !inB x.f2 (-50) 50 || !inB x.f3 0 1000 || !inB x.f4 0 1000 || decide (wrap64 (x.f3 + x.f4) > 1000)) := by
  have h := tankBad_is x
  unfold impl_TanksOk_1.f at h
  simp only [impl_in.is, Option.bind_some] at h
  have e : ∀ a b c : Int, decide (b ≤ a ∧ a ≤ c) = inB a b c := fun _ _ _ => rfl
  simp only [e] at h
  cases h0 : inB x.f0 0 x.f1 <;> simp [h0] at h ⊢
  · first | exact h.symm | exact h
  · by_cases h1 : x.f1 > 100000
    · simp [h1] at h ⊢; first | exact h.symm | exact h
    · have h1' : ¬ 100000 < x.f1 := h1
      simp [h1'] at h ⊢
      cases h2 : inB x.f2 (-50) 50 <;> simp [h2] at h ⊢
      · first | exact h.symm | exact h
      · cases h3 : inB x.f3 0 1000 <;> simp [h3] at h ⊢
        · first | exact h.symm | exact h
        · cases h4 : inB x.f4 0 1000 <;> simp [h4] at h ⊢
          · first | exact h.symm | exact h
          · first | exact h.symm | exact h
theorem ev_sTanks (t : List S116) : ∀ (a : List S116), (a ++ t).length ≤ 1099511627776 → (∀ x ∈ a, tankBad x = false) → Ev (fun k => spec_TanksOk.l0 k (a ++ t) (a.length : Int)) (tanksB (a ++ t)) := by
  induction t with
  | nil =>
    intro a hl ha
    refine Ev.step (fun k => by rw [spec_TanksOk.l0]) ?_
    refine ev_ite_neg (mid_nil a) ?_
    simp only [spec_l1In.is]
    refine ev_bind1 rfl (ev_some ?_)
    rw [List.append_nil]
    have e : a.any tankBad = false := by rw [List.any_eq_false]; intro x hx; simp [ha x hx]
    unfold tanksB inB
    rw [e]
    by_cases h : 1 ≤ (a.length : Int) ∧ (a.length : Int) ≤ 12
    · rw [if_pos h]; simp [h]
    · rw [if_neg h]; simp; omega
  | cons x t ih =>
    intro a hl ha
    refine Ev.step (fun k => by rw [spec_TanksOk.l0]) ?_
    refine ev_ite_pos (mid_lt a x t) (ev_ite_pos (by omega) ?_)
    simp only [mid_T116, spec_l1In.is]
    have hx := tankBad_eq x
    have hbad : tankBad x = true → tanksB (a ++ x :: t) = false := by
      intro hb
      unfold tanksB
      have e : (a ++ x :: t).any tankBad = true := by simp [hb]
      rw [e]; split <;> rfl
    have hgo : tankBad x = false → Ev (fun k => spec_TanksOk.l0 k (a ++ x :: t) (wrap64 ((a.length : Int) + 1))) (tanksB (a ++ x :: t)) := by
      intro hb
      rw [mid_next a x t hl, mid_app]
      exact ih (a ++ [x]) (by rw [← mid_app]; exact hl) (by intro y hy; simp at hy; rcases hy with hy | rfl; exact ha y hy; exact hb)
    have no : tankBad x = true → Ev (fun _ => some false) (tanksB (a ++ x :: t)) := fun hb => by rw [hbad hb]; exact Ev.now _
    refine ev_bind1 rfl ?_
    cases h0 : inB x.f0 0 x.f1
    · simp only [h0] at hx; refine ev_ite_neg (by simp) (no (by rw [hx]; rfl))
    refine ev_ite_pos rfl ?_
    by_cases h1 : x.f1 > 100000
    · refine ev_ite_pos h1 (no (by rw [hx]; simp [h1]))
    refine ev_ite_neg h1 (ev_bind1 rfl ?_)
    cases h2 : inB x.f2 (-50) 50
    · refine ev_ite_neg (by simp) (no (by rw [hx]; simp [h2]))
    refine ev_ite_pos rfl (ev_bind1 rfl ?_)
    cases h3 : inB x.f3 0 1000
    · refine ev_ite_neg (by simp) (no (by rw [hx]; simp [h3]))
    refine ev_ite_pos rfl (ev_bind1 rfl ?_)
    cases h4 : inB x.f4 0 1000
    · refine ev_ite_neg (by simp) (no (by rw [hx]; simp [h4]))
    refine ev_ite_pos rfl ?_
    by_cases h5 : wrap64 (x.f3 + x.f4) > 1000
    · refine ev_ite_pos h5 (no (by rw [hx]; simp [h5]))
    refine ev_ite_neg h5 (hgo ?_)
    rw [hx]; have h1' : ¬ 100000 < x.f1 := h1; have h5' : ¬ 1000 < wrap64 (x.f3 + x.f4) := h5; simp [h0, h1', h2, h3, h4, h5']
theorem stanks_calls (A0 : Option Addr) (c0 : Nat) (l0 : List S116) (w : World) (hr0 : Kd.C k116 w A0 l0.length l0) (hc0 : l0.length ≤ c0) (hl : l0.length ≤ 1099511627776) : Calls Try.prog 122 #[.slice A0 l0.length c0] w fun e w' => e = .returned (.bool (tanksB l0)) ∧ Below w.heap.size w w' := by
  obtain ⟨k, h⟩ := (ev_sTanks l0 [] (by simpa using hl) (by simp)).rounds
  exact spec_TanksOk.calls k A0 c0 l0 _ w hr0 hc0 h
def opB (l : List S116) (K A B M : Int) : Bool :=
  inB K 1 5 && inB A 0 ((l.length : Int) - 1) && (if K ≥ 4 then inB M 1 100 else inB M 1 100000 && (!(K == 3) || (inB B 0 ((l.length : Int) - 1) && B != A)))
theorem ev_sOp (l : List S116) (K A B M : Int) (hl : l.length ≤ 1099511627776) : Ev (fun k => spec_l13Op.f k l K A B M) (opB l K A B M) := by
  have hw : wrap64 ((l.length : Int) - 1) = (l.length : Int) - 1 := by unfold wrap64; omega
  unfold spec_l13Op.f opB
  simp only [spec_l1In.is, hw]
  have J : ∀ b : Bool, b = true → Ev (fun k => spec_l13Op.j0 k ((l.length : Int) - 1) b K A B M) false := fun b hb => by
    refine Ev.step (fun k => by rw [spec_l13Op.j0]) ?_
    exact ev_ite_pos hb (Ev.now _)
  refine ev_bind1 rfl ?_
  cases h1 : inB K 1 5
  · exact ev_ite_neg (by simp) (by simpa using J true rfl)
  refine ev_ite_pos rfl (ev_bind1 rfl ?_)
  cases h2 : inB A 0 ((l.length : Int) - 1)
  · simpa using J true rfl
  refine Ev.step (fun k => by rw [spec_l13Op.j0]) ?_
  refine ev_ite_neg (by simp) ?_
  simp only [spec_l1In.is]
  by_cases h3 : K ≥ 4
  · refine ev_ite_pos h3 (ev_bind1 rfl (ev_some ?_)); simp [h3]
  refine ev_ite_neg h3 (ev_bind1 rfl ?_)
  cases h4 : inB M 1 100000
  · exact ev_ite_neg (by simp) (ev_some (by simp [h3]))
  refine ev_ite_pos rfl ?_
  by_cases h5 : K = 3
  · refine ev_ite_pos h5 (ev_bind1 rfl ?_)
    cases h6 : inB B 0 ((l.length : Int) - 1)
    · exact ev_ite_neg (by simp) (ev_some (by simp [h5]))
    · exact ev_ite_pos rfl (ev_some (by simp [h5]))
  · refine ev_ite_neg h5 (ev_some (by simp [h3, h5]))
theorem sop_calls (A0 : Option Addr) (c0 : Nat) (l0 : List S116) (K A B M : Int) (w : World) (hr0 : Kd.C k116 w A0 l0.length l0) (hc0 : l0.length ≤ c0) (hl : l0.length ≤ 1099511627776) : Calls Try.prog 123 #[.slice A0 l0.length c0, .agg #[.int .i64 K, .int .i64 A, .int .i64 B, .int .i64 M]] w fun e w' => e = .returned (.bool (opB l0 K A B M)) ∧ Below w.heap.size w w' := by
  obtain ⟨k, h⟩ := (ev_sOp l0 K A B M hl).rounds
  exact spec_l13Op.calls k A0 c0 l0 K A B M _ w hr0 hc0 h
theorem ev_sLean (t : List S116) : ∀ (a : List S116) (s : Int), (a ++ t).length ≤ 1099511627776 → Ev (fun k => spec_l13Lean.l0 k (a ++ t) s (a.length : Int)) (sizeV (leanV s t)) := by
  induction t with
  | nil =>
    intro a s hl
    refine Ev.step (fun k => by rw [spec_l13Lean.l0]) ?_
    refine ev_ite_neg (mid_nil a) ?_
    refine ev_bind1 (a := sizeV s) (by unfold spec_l3Size.f sizeV; split <;> rfl) (Ev.now _)
  | cons x t ih =>
    intro a s hl
    refine Ev.step (fun k => by rw [spec_l13Lean.l0]) ?_
    refine ev_ite_pos (mid_lt a x t) (ev_ite_pos (by omega) ?_)
    simp only [mid_T116]
    rw [mid_next a x t hl, mid_app]
    exact ih (a ++ [x]) _ (by rw [← mid_app]; exact hl)
theorem slean_calls (A0 : Option Addr) (n c0 : Nat) (l0 : List S116) (w : World) (hr0 : Kd.C k116 w A0 l0.length l0) (hn : n = l0.length) (hc0 : n ≤ c0) (hl : n ≤ 1099511627776) : Calls Try.prog 127 #[.slice A0 n c0] w fun e w' => e = .returned (.int .i64 (sizeV (leanV 0 l0))) ∧ ∃ m, w' = w.drewN m := by
  subst hn
  obtain ⟨k, h⟩ := (ev_sLean l0 [] 0 (by simpa using hl)).rounds
  exact (spec_l13Lean.calls k A0 c0 l0 _ w hr0 hc0 h).mono fun e w' ⟨he, ⟨hd⟩⟩ => ⟨he, hd⟩
theorem sburn_calls (a b c d e : Int) (w : World) : Calls Try.prog 126 #[.agg #[.int .i64 a, .int .i64 b, .int .i64 c, .int .i64 d, .int .i64 e]] w fun r w' => r = .returned (.bool (burnB ⟨a, b, c, d, e⟩)) ∧ Below w.heap.size w w' :=
  spec_l13Burns.calls a b c d e _ w (by unfold spec_l13Burns.f burnB; simp only [spec_l1In.is, Option.bind_some]; by_cases h : e > 110 <;> simp [h])
def sOutT (x : S116) (M : Int) : S116 := if wrap64 (x.f0 - M) ≥ 0 then outT x M else ⟨wrap64 (x.f0 - M), x.f1, x.f2, x.f3, x.f4⟩
theorem sin13_calls (a b c d e m : Int) (w : World) : Calls Try.prog 124 #[.agg #[.int .i64 a, .int .i64 b, .int .i64 c, .int .i64 d, .int .i64 e], .int .i64 m] w fun r w' => r = .returned (.agg #[.int .i64 (wrap64 (a + m)), .int .i64 b, .int .i64 c, .int .i64 d, .int .i64 e]) ∧ Below w.heap.size w w' :=
  spec_l13In.calls a b c d e m _ _ _ _ _ w rfl
theorem sout13_calls (a b c d e m : Int) (w : World) (h : wrap64 (a - m) ≥ 0 → ¬ wrap64 (b - wrap64 (a - m)) = 0) : Calls Try.prog 125 #[.agg #[.int .i64 a, .int .i64 b, .int .i64 c, .int .i64 d, .int .i64 e], .int .i64 m] w fun r w' => r = .returned (.agg #[.int .i64 (sOutT ⟨a, b, c, d, e⟩ m).f0, .int .i64 (sOutT ⟨a, b, c, d, e⟩ m).f1, .int .i64 (sOutT ⟨a, b, c, d, e⟩ m).f2, .int .i64 (sOutT ⟨a, b, c, d, e⟩ m).f3, .int .i64 (sOutT ⟨a, b, c, d, e⟩ m).f4]) ∧ Below w.heap.size w w' := by
  refine spec_l13Out.calls a b c d e m _ _ _ _ _ w ?_
  unfold spec_l13Out.f sOutT outT
  by_cases h0 : wrap64 (a - m) ≥ 0
  · rw [if_pos h0, if_neg (h h0), if_pos h0]
  · rw [if_neg h0, if_neg h0]
def sBad (l : List S116) (K A B M lean : Int) : Bool := !tanksB l || !opB l K A B M || !inB lean 0 100000000
def sNamed (K A B : Int) : List Int := if K = 3 then [A, B] else [A]
def sChanged (l : List S116) (K A B M : Int) : List S116 :=
  if K = 1 then l.set A.toNat (fillT (rd_T116 l A) M) else
  if K = 2 then l.set A.toNat (sOutT (rd_T116 l A) M) else
  if K = 3 then (l.set A.toNat (sOutT (rd_T116 l A) M)).set B.toNat (fillT (rd_T116 (l.set A.toNat (sOutT (rd_T116 l A) M)) B) M) else
  if K = 5 then (l.set A.toNat (gasT (rd_T116 l A) M)).set A.toNat (ventT (rd_T116 (l.set A.toNat (gasT (rd_T116 l A) M)) A) M) else
  l.set A.toNat (gasT (rd_T116 l A) M)
def dryB (L : List S116) (N : List Int) : Bool := N.any fun j => decide ((rd_T116 L j).f0 < 0)
def overB (L : List S116) (N : List Int) : Bool := N.any fun j => decide ((rd_T116 L j).f0 > (rd_T116 L j).f1)
def burnsB (L : List S116) (N : List Int) : Bool := N.any fun j => burnB (rd_T116 L j)
def spec_CargoStep.f (l0 : List S116) (K A B M lean : Int) : Option (List S116 × Int) :=
  if l0.length ≤ 1099511627776 then
    if sBad l0 K A B M lean = true then some (l0, 1) else
    if (K = 2 ∨ K = 3) ∧ wrap64 ((rd_T116 l0 A).f0 - M) ≥ 0 ∧ wrap64 ((rd_T116 l0 A).f1 - wrap64 ((rd_T116 l0 A).f0 - M)) = 0 then none else
    if dryB (sChanged l0 K A B M) (sNamed K A B) = true then some (l0, 2) else
    if overB (sChanged l0 K A B M) (sNamed K A B) = true then some (l0, 3) else
    if burnsB (sChanged l0 K A B M) (sNamed K A B) = true then some (l0, 4) else
    if sizeV (leanV 0 (sChanged l0 K A B M)) > lean ∧ sizeV (leanV 0 (sChanged l0 K A B M)) > sizeV (leanV 0 l0) then some (l0, 5) else
    some (sChanged l0 K A B M, 0)
  else none
theorem St1.lt {w0 W : World} {K A B M : Int} {vw : Value} {l0 l : List S116} {g n cap : Nat} (h : St1 w0 K A B M vw l0 g n cap W l) : g < W.heap.size := Kd.R_lt h.row g (by simp [Value.ownBlock])
theorem St1.store {w0 W : World} {K A B M : Int} {vw : Value} {l0 l : List S116} {g n cap : Nat} (h : St1 w0 K A B M vw l0 g n cap W l) (i : Int) (h0 : 0 ≤ i) (h1 : i < n) (x : S116) :
    St1 w0 K A B M vw l0 g n cap (((((W.setCell ⟨g, i.toNat * 5, none⟩ (.int .i64 x.f0)).setCell ⟨g, i.toNat * 5 + 1, none⟩ (.int .i64 x.f1)).setCell ⟨g, i.toNat * 5 + 2, none⟩ (.int .i64 x.f2)).setCell ⟨g, i.toNat * 5 + 3, none⟩ (.int .i64 x.f3)).setCell ⟨g, i.toNat * 5 + 4, none⟩ (.int .i64 x.f4)) (l.set i.toNat x) := by
  have hil : i.toNat < l.length := by have := h.len; omega
  have p0 := R_put116_0 h.row i h0 h1 x.f0
  have s0 := h.put p0.1 p0.2
  have p1 := R_put116_1 s0.row i h0 h1 x.f1
  have s1 := s0.put p1.1 p1.2
  have p2 := R_put116_2 s1.row i h0 h1 x.f2
  have s2 := s1.put p2.1 p2.2
  have p3 := R_put116_3 s2.row i h0 h1 x.f3
  have s3 := s2.put p3.1 p3.2
  have p4 := R_put116_4 s3.row i h0 h1 x.f4
  have s4 := s3.put p4.1 p4.2
  simp only [rd_set116 _ i _ (by simpa using hil), List.set_set] at s4
  exact s4
theorem R_set3 {W : World} {base g : Nat} {ok : Nat → Prop} {v : Value} {xs : List Int} (h : Kd.R (Kd.int .i64) 3 W base ok v xs) (hg : ∀ k, v.ownBlock = some k → k ≠ g) (off : Nat) (u : Value) : Kd.R (Kd.int .i64) 3 (W.setCell ⟨g, off, none⟩ u) base ok v xs := by
  have hb : Kd.R (Kd.int .i64) 3 W base (fun k => ok k ∧ k ≠ g) v xs := ⟨fun k hk => ⟨h.1 k hk, hg k hk⟩, h.2⟩
  exact Kd.R_mono (Kd.R_far hb (p := ⟨g, off, none⟩) (fun k hk => hk.2) u) (fun k hk => hk.1)
theorem St1.below1 {w0 W : World} {K A B M : Int} {vw : Value} {l0 l : List S116} {g n cap : Nat} (h : St1 w0 K A B M vw l0 g n cap W l) : Below w0.heap.size w0 W := h.below
theorem St1.far {w0 W W1 : World} {K A B M : Int} {vw : Value} {l0 l : List S116} {g n cap : Nat} {v : Value} {xs : List Int} {base : Nat} {ok : Nat → Prop} (h : St1 w0 K A B M vw l0 g n cap W l) (hg : W.grownBy W1 v.ownBlock) (hv : Kd.R (Kd.int .i64) 3 W base ok v xs) (hb : w0.heap.size + 1 ≤ base) : St1 w0 K A B M vw l0 g n cap W1 l :=
  ⟨blk_grown h.box hg (fun e => by have := Kd.R_base hv _ e.symm; omega), Kd.R_over h.was hv (by decide) hg, Kd.R_over h.row hv (by decide) hg, h.below.grown hg (below_size h.below) (fun k hk => by have := Kd.R_base hv k hk; omega), h.ge⟩
theorem sin13_y (x y : S116) (m : Int) (w : World) (hy : y = fillT x m) : Calls Try.prog 124 #[.agg #[.int .i64 x.f0, .int .i64 x.f1, .int .i64 x.f2, .int .i64 x.f3, .int .i64 x.f4], .int .i64 m] w fun r w' => r = .returned (.agg #[.int .i64 y.f0, .int .i64 y.f1, .int .i64 y.f2, .int .i64 y.f3, .int .i64 y.f4]) ∧ Below w.heap.size w w' := by
  subst hy
  exact sin13_calls _ _ _ _ _ _ _
theorem sout13_y (x y : S116) (m : Int) (w : World) (hy : y = sOutT x m) (h : wrap64 (x.f0 - m) ≥ 0 → ¬ wrap64 (x.f1 - wrap64 (x.f0 - m)) = 0) : Calls Try.prog 125 #[.agg #[.int .i64 x.f0, .int .i64 x.f1, .int .i64 x.f2, .int .i64 x.f3, .int .i64 x.f4], .int .i64 m] w fun r w' => r = .returned (.agg #[.int .i64 y.f0, .int .i64 y.f1, .int .i64 y.f2, .int .i64 y.f3, .int .i64 y.f4]) ∧ Below w.heap.size w w' := by
  subst hy
  exact sout13_calls _ _ _ _ _ _ _ h
theorem St1.alloc {w0 W : World} {K A B M : Int} {vw : Value} {l0 l : List S116} {g n cap : Nat} (h : St1 w0 K A B M vw l0 g n cap W l) (o : Obj) : St1 w0 K A B M vw l0 g n cap (W.alloc o) l := h.step (below_alloc (Below.refl _ _) o)
section
variable {w0 W : World} {K A B M : Int} {vw : Value} {l0 l : List S116} {g n cap : Nat}
theorem St1.was0 (h : St1 w0 K A B M vw l0 g n cap W l) : Kd.R k116 116 W w0.heap.size (fun _ => True) vw l0 := Kd.R_mono (Kd.R_lower h.was (by omega)) (fun _ _ => trivial)
theorem St1.was_at (h : St1 w0 K A B M vw l0 g n cap W l) (m : Nat) : Kd.R k116 116 (W.drewN m) w0.heap.size (fun _ => True) vw l0 := (h.drewN m).was0
theorem St1.row0 (h : St1 w0 K A B M vw l0 g n cap W l) : Kd.R k116 116 W w0.heap.size (fun _ => True) (.slice (some ⟨g, 0, none⟩) n cap) l := Kd.R_lower h.row (by omega)
theorem St1.row_at (h : St1 w0 K A B M vw l0 g n cap W l) (m : Nat) : Kd.R k116 116 (W.drewN m) w0.heap.size (fun _ => True) (.slice (some ⟨g, 0, none⟩) n cap) l := (h.drewN m).row0
theorem St1.below_at (h : St1 w0 K A B M vw l0 g n cap W l) (m : Nat) : Below w0.heap.size w0 (W.drewN m) := (h.drewN m).below
end
theorem take_any_step (N : List Int) (k : Nat) (hk : k < N.length) (p : Int → Bool) : (N.take (k + 1)).any p = ((N.take k).any p || p (N.getD k 0)) := by
  rw [List.take_succ_eq_append_getElem hk, List.any_append]
  simp [List.getD_eq_getElem?_getD, hk]
theorem dryB_step (L : List S116) (N : List Int) (k : Nat) (hk : k < N.length) : dryB L (N.take (k + 1)) = (dryB L (N.take k) || decide ((rd_T116 L (N.getD k 0)).f0 < 0)) := take_any_step N k hk _
theorem overB_step (L : List S116) (N : List Int) (k : Nat) (hk : k < N.length) : overB L (N.take (k + 1)) = (overB L (N.take k) || decide ((rd_T116 L (N.getD k 0)).f0 > (rd_T116 L (N.getD k 0)).f1)) := take_any_step N k hk _
theorem burnsB_step (L : List S116) (N : List Int) (k : Nat) (hk : k < N.length) : burnsB L (N.take (k + 1)) = (burnsB L (N.take k) || burnB (rd_T116 L (N.getD k 0))) := take_any_step N k hk _
theorem Kd.C_drewN_ {α : Type} {d : Kd α} {w : World} {A : Option Addr} {n : Nat} {xs : List α} (h : d.C w A n xs) (m : Nat) : d.C (w.drewN m) A n xs := Kd.C_below h (pw_below_drewN (Below.refl _ _) m)
theorem Below.widen {w W : World} {o : Obj} (h : Below w.heap.size w W) (hb : W.heap[w.heap.size]? = some o) : Below w.heap.size w W := h
theorem R_ne_boxx {α : Type} {d : Kd α} {e base g : Nat} {W : World} {ok : Nat → Prop} {v : Value} {xs : List α} (h : d.R e W base ok v xs) (hg : g < base) : some g ≠ v.ownBlock := fun he => by have := Kd.R_base h g he.symm; omega
end Go.Proofs.Ytmdennlkgakfnaa.C
