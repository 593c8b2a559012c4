import Derived.Test.YtmdennlkgakfnaaCL0b
namespace Go.Proofs.Ytmdennlkgakfnaa.C
open Go.RowKit Go.Proofs.YtmdennlkgakfnaaW.PrintWords Go.Proofs.YtmdennlkgakfnaaW.PrintLast Go.Proofs.YtmdennlkgakfnaaW.PrintMore
set_option linter.unusedVariables false
set_option linter.unusedSimpArgs false

/-! What a law does with its arguments -/
theorem wr1 (i : Nat) (h : i ≤ 1099511627776) : wrap64 ((i : Int) + 1) = ((i + 1 : Nat) : Int) := by unfold wrap64; omega
theorem ev_ite_pos {α : Type} {c : Prop} [Decidable c] {A B : Nat → Option α} {r : α} (h : c) (k : Ev A r) : Ev (fun n => if c then A n else B n) r := by simp only [if_pos h]; exact k
theorem ev_ite_neg {α : Type} {c : Prop} [Decidable c] {A B : Nat → Option α} {r : α} (h : ¬ c) (k : Ev B r) : Ev (fun n => if c then A n else B n) r := by simp only [if_neg h]; exact k
theorem ev_some {α : Type} {x : Option α} {r : α} (h : x = some r) : Ev (fun _ => x) r := ⟨0, fun _ _ => h⟩
theorem ev_bind1 {α β : Type} {x : Option α} {a : α} {f : Nat → α → Option β} {r : β} (h : x = some a) (k : Ev (fun n => f n a) r) : Ev (fun n => x.bind (f n)) r := by subst h; simpa using k
theorem ev_eq {α : Type} {g : Nat → Option α} {r s : α} (h : Ev g r) (e : r = s) : Ev g s := e ▸ h
theorem mid_lt {α : Type} (a : List α) (x : α) (b : List α) : (a.length : Int) < ((a ++ x :: b).length : Int) := by simp; omega
theorem mid_set {α : Type} (a : List α) (x y : α) (b : List α) : (a ++ x :: b).set ((a.length : Int)).toNat y = a ++ y :: b := by simp
theorem mid_next {α : Type} (a : List α) (x : α) (b : List α) (h : (a ++ x :: b).length ≤ 1099511627776) : wrap64 ((a.length : Int) + 1) = (((a ++ [x]).length : Nat) : Int) := by
  rw [wr1 _ (by simp at h; omega)]; simp
theorem mid_nil {α : Type} (a : List α) : ¬ ((a.length : Int) < ((a ++ []).length : Int)) := by simp
theorem mid_app {α : Type} (a : List α) (x : α) (b : List α) : a ++ x :: b = (a ++ [x]) ++ b := by simp


/-! CargoTank -/
theorem mid_T118 (a b : List S118) (x : S118) : rd_T118 (a ++ x :: b) (a.length : Int) = x := by simp [rd_T118]
def convCargoTank (x : S118) : S116 := ⟨x.f0, x.f1, x.f2, x.f3, x.f4⟩
theorem mid_T116 (a b : List S116) (x : S116) : rd_T116 (a ++ x :: b) (a.length : Int) = x := by simp [rd_T116]
theorem ev_toCargoTank (t : List S118) : ∀ (a : List S118) (d : List S116), d.length = a.length → (a ++ t).length ≤ 1099511627776 → Ev (fun k => laws_toCargoTankS.l0 k (a ++ t) (d ++ List.replicate t.length z116) (a.length : Int)) (d ++ t.map convCargoTank) := by
  induction t with
  | nil =>
    intro a d hd hl
    refine Ev.step (fun k => by rw [laws_toCargoTankS.l0]) ?_
    refine ev_ite_neg (mid_nil a) ?_
    simpa using Ev.now _
  | cons x t ih =>
    intro a d hd hl
    refine Ev.step (fun k => by rw [laws_toCargoTankS.l0]) ?_
    refine ev_ite_pos (mid_lt a x t) (ev_ite_pos (by omega) ?_)
    simp only [mid_T118]
    refine ev_bind1 (a := (x.f0, x.f1, x.f2, x.f3, x.f4)) rfl ?_
    refine ev_ite_pos (by simp; omega) ?_
    have e1 : (d ++ List.replicate (x :: t).length z116).set ((a.length : Int)).toNat (convCargoTank x) = (d ++ [convCargoTank x]) ++ List.replicate t.length z116 := by
      rw [List.length_cons, List.replicate_succ, ← hd]; simp
    have h := ih (a ++ [x]) (d ++ [convCargoTank x]) (by simp [hd]) (by rw [← mid_app]; exact hl)
    rw [← mid_app, ← mid_next a x t hl, ← e1] at h
    exact ev_eq h (by simp)
theorem ev_toCargoTankS (l : List S118) (hl : l.length ≤ 1048576) : Ev (fun k => laws_toCargoTankS.f k l) (l.map convCargoTank) := by
  unfold laws_toCargoTankS.f
  refine ev_ite_pos (by omega) (ev_ite_pos (by omega) ?_)
  have h := ev_toCargoTank l [] [] rfl (by simp; omega)
  simpa using h
theorem ev_eqCargoTank (t : List S116) : ∀ (a : List S116), (a ++ t).length ≤ 1099511627776 → Ev (fun k => laws_eqCargoTankS.l0 k (a ++ t) (a ++ t) (a.length : Int)) true := by
  induction t with
  | nil =>
    intro a hl
    refine Ev.step (fun k => by rw [laws_eqCargoTankS.l0]) ?_
    exact ev_ite_neg (mid_nil a) (Ev.now _)
  | cons x t ih =>
    intro a hl
    refine Ev.step (fun k => by rw [laws_eqCargoTankS.l0]) ?_
    refine ev_ite_pos (mid_lt a x t) (ev_ite_pos (by omega) (ev_ite_pos (mid_lt a x t) ?_))
    simp only [mid_T116]
    refine ev_bind1 (a := true) (by unfold laws_eqCargoTank.f; simp) ?_
    refine ev_ite_pos rfl ?_
    rw [mid_next a x t hl, mid_app]
    exact ih (a ++ [x]) (by rw [← mid_app]; exact hl)
theorem ev_eqCargoTankS (l : List S116) (hl : l.length ≤ 1099511627776) : Ev (fun k => laws_eqCargoTankS.f k l l) true := by
  unfold laws_eqCargoTankS.f
  refine ev_ite_pos rfl ?_
  exact ev_eqCargoTank l [] (by simpa using hl)
def markCargoTank : List S116 → Int → Int × List S116
  | [], x => (x, [])
  | t :: ts, x =>
    let x1 := wrap64 (x + 1)
    let x2 := wrap64 (x1 + 1)
    let x3 := wrap64 (x2 + 1)
    let x4 := wrap64 (x3 + 1)
    let x5 := wrap64 (x4 + 1)
    ((markCargoTank ts x5).1, ⟨x, x1, x2, x3, x4⟩ :: (markCargoTank ts x5).2)
theorem markCargoTank_len (l : List S116) : ∀ x, (markCargoTank l x).2.length = l.length := by
  induction l with
  | nil => intro x; rfl
  | cons t ts ih => intro x; simp [markCargoTank, ih]
theorem markCargoTank_fst (l : List S116) : ∀ x, 0 ≤ x → x + 5 * (l.length : Int) ≤ 4611686018427387904 → (markCargoTank l x).1 = x + 5 * (l.length : Int) := by
  induction l with
  | nil => intro x _ _; simp [markCargoTank]
  | cons t ts ih =>
    intro x h0 h1
    simp only [List.length_cons] at h1
    have w1 : ∀ y : Int, 0 ≤ y → y ≤ 4611686018427387904 → wrap64 (y + 1) = y + 1 := fun y _ _ => by unfold wrap64; omega
    simp only [markCargoTank]
    rw [w1 (x) (by omega) (by omega), w1 (x + 1) (by omega) (by omega), w1 (x + 1 + 1) (by omega) (by omega), w1 (x + 1 + 1 + 1) (by omega) (by omega), w1 (x + 1 + 1 + 1 + 1) (by omega) (by omega), ih _ (by omega) (by omega), List.length_cons]
    omega
theorem ev_markCargoTank (t : List S116) : ∀ (a : List S116) (x : Int), (a ++ t).length ≤ 1099511627776 → Ev (fun k => laws_markCargoTankS.l0 k (a ++ t) x (a.length : Int)) ((markCargoTank t x).1, a ++ (markCargoTank t x).2) := by
  induction t with
  | nil =>
    intro a x hl
    refine Ev.step (fun k => by rw [laws_markCargoTankS.l0]) ?_
    refine ev_ite_neg (mid_nil a) ?_
    simpa [markCargoTank] using Ev.now _
  | cons y t ih =>
    intro a x hl
    refine Ev.step (fun k => by rw [laws_markCargoTankS.l0]) ?_
    refine ev_ite_pos (mid_lt a y t) (ev_ite_pos (by omega) ?_)
    simp only [Option.bind_some, mid_T116, mid_set]
    have h := ih (a ++ [(⟨x, wrap64 (x + 1), wrap64 (wrap64 (x + 1) + 1), wrap64 (wrap64 (wrap64 (x + 1) + 1) + 1), wrap64 (wrap64 (wrap64 (wrap64 (x + 1) + 1) + 1) + 1)⟩ : S116)]) (wrap64 (wrap64 (wrap64 (wrap64 (wrap64 (x + 1) + 1) + 1) + 1) + 1)) (by simp at hl ⊢; omega)
    rw [← mid_app, ← mid_next a _ t (by simp at hl ⊢; omega)] at h
    exact ev_eq h (by simp [markCargoTank])
theorem ev_markCargoTankS (l : List S116) (x : Int) (hl : l.length ≤ 1099511627776) : Ev (fun k => laws_markCargoTankS.f k l x) (markCargoTank l x) := by
  unfold laws_markCargoTankS.f
  exact ev_markCargoTank l [] x (by simpa using hl)
theorem ev_heldCargoTank (t : List S116) : ∀ (a : List S116) (x : Int), (a ++ t).length ≤ 1099511627776 → Ev (fun k => laws_heldCargoTankS.l0 k (a ++ (markCargoTank t x).2) x (a.length : Int)) (markCargoTank t x).1 := by
  induction t with
  | nil =>
    intro a x hl
    refine Ev.step (fun k => by rw [laws_heldCargoTankS.l0]) ?_
    exact ev_ite_neg (mid_nil a) (Ev.now _)
  | cons y t ih =>
    intro a x hl
    refine Ev.step (fun k => by rw [laws_heldCargoTankS.l0]) ?_
    simp only [markCargoTank]
    refine ev_ite_pos (mid_lt a _ _) (ev_ite_pos (by omega) ?_)
    simp only [mid_T116]
    refine ev_ite_pos (by first | rfl | trivial) (ev_ite_pos (by first | rfl | trivial) (ev_ite_pos (by first | rfl | trivial) (ev_ite_pos (by first | rfl | trivial) (ev_ite_pos (by first | rfl | trivial) (?_)))))
    rw [mid_next a _ _ (by simp [markCargoTank_len] at hl ⊢; omega), mid_app]
    exact ih (a ++ [_]) _ (by simp at hl ⊢; omega)
theorem ev_heldCargoTankS (l : List S116) (x : Int) (hl : l.length ≤ 1099511627776) : Ev (fun k => laws_heldCargoTankS.f k (markCargoTank l x).2 x) (markCargoTank l x).1 := by
  unfold laws_heldCargoTankS.f
  exact ev_heldCargoTank l [] x (by simpa using hl)

/-! CargoOp -/
theorem mid_T120 (a b : List S120) (x : S120) : rd_T120 (a ++ x :: b) (a.length : Int) = x := by simp [rd_T120]
def convCargoOp (x : S120) : S114 := ⟨x.f0, x.f1, x.f2, x.f3⟩
theorem mid_T114 (a b : List S114) (x : S114) : rd_T114 (a ++ x :: b) (a.length : Int) = x := by simp [rd_T114]
theorem ev_toCargoOp (t : List S120) : ∀ (a : List S120) (d : List S114), d.length = a.length → (a ++ t).length ≤ 1099511627776 → Ev (fun k => laws_toCargoOpS.l0 k (a ++ t) (d ++ List.replicate t.length z114) (a.length : Int)) (d ++ t.map convCargoOp) := by
  induction t with
  | nil =>
    intro a d hd hl
    refine Ev.step (fun k => by rw [laws_toCargoOpS.l0]) ?_
    refine ev_ite_neg (mid_nil a) ?_
    simpa using Ev.now _
  | cons x t ih =>
    intro a d hd hl
    refine Ev.step (fun k => by rw [laws_toCargoOpS.l0]) ?_
    refine ev_ite_pos (mid_lt a x t) (ev_ite_pos (by omega) ?_)
    simp only [mid_T120]
    refine ev_bind1 (a := (x.f0, x.f1, x.f2, x.f3)) rfl ?_
    refine ev_ite_pos (by simp; omega) ?_
    have e1 : (d ++ List.replicate (x :: t).length z114).set ((a.length : Int)).toNat (convCargoOp x) = (d ++ [convCargoOp x]) ++ List.replicate t.length z114 := by
      rw [List.length_cons, List.replicate_succ, ← hd]; simp
    have h := ih (a ++ [x]) (d ++ [convCargoOp x]) (by simp [hd]) (by rw [← mid_app]; exact hl)
    rw [← mid_app, ← mid_next a x t hl, ← e1] at h
    exact ev_eq h (by simp)
theorem ev_toCargoOpS (l : List S120) (hl : l.length ≤ 1048576) : Ev (fun k => laws_toCargoOpS.f k l) (l.map convCargoOp) := by
  unfold laws_toCargoOpS.f
  refine ev_ite_pos (by omega) (ev_ite_pos (by omega) ?_)
  have h := ev_toCargoOp l [] [] rfl (by simp; omega)
  simpa using h
theorem ev_eqCargoOp (t : List S114) : ∀ (a : List S114), (a ++ t).length ≤ 1099511627776 → Ev (fun k => laws_eqCargoOpS.l0 k (a ++ t) (a ++ t) (a.length : Int)) true := by
  induction t with
  | nil =>
    intro a hl
    refine Ev.step (fun k => by rw [laws_eqCargoOpS.l0]) ?_
    exact ev_ite_neg (mid_nil a) (Ev.now _)
  | cons x t ih =>
    intro a hl
    refine Ev.step (fun k => by rw [laws_eqCargoOpS.l0]) ?_
    refine ev_ite_pos (mid_lt a x t) (ev_ite_pos (by omega) (ev_ite_pos (mid_lt a x t) ?_))
    simp only [mid_T114]
    refine ev_bind1 (a := true) (by unfold laws_eqCargoOp.f; simp) ?_
    refine ev_ite_pos rfl ?_
    rw [mid_next a x t hl, mid_app]
    exact ih (a ++ [x]) (by rw [← mid_app]; exact hl)
theorem ev_eqCargoOpS (l : List S114) (hl : l.length ≤ 1099511627776) : Ev (fun k => laws_eqCargoOpS.f k l l) true := by
  unfold laws_eqCargoOpS.f
  refine ev_ite_pos rfl ?_
  exact ev_eqCargoOp l [] (by simpa using hl)
def markCargoOp : List S114 → Int → Int × List S114
  | [], x => (x, [])
  | t :: ts, x =>
    let x1 := wrap64 (x + 1)
    let x2 := wrap64 (x1 + 1)
    let x3 := wrap64 (x2 + 1)
    let x4 := wrap64 (x3 + 1)
    ((markCargoOp ts x4).1, ⟨x, x1, x2, x3⟩ :: (markCargoOp ts x4).2)
theorem markCargoOp_len (l : List S114) : ∀ x, (markCargoOp l x).2.length = l.length := by
  induction l with
  | nil => intro x; rfl
  | cons t ts ih => intro x; simp [markCargoOp, ih]
theorem markCargoOp_fst (l : List S114) : ∀ x, 0 ≤ x → x + 4 * (l.length : Int) ≤ 4611686018427387904 → (markCargoOp l x).1 = x + 4 * (l.length : Int) := by
  induction l with
  | nil => intro x _ _; simp [markCargoOp]
  | cons t ts ih =>
    intro x h0 h1
    simp only [List.length_cons] at h1
    have w1 : ∀ y : Int, 0 ≤ y → y ≤ 4611686018427387904 → wrap64 (y + 1) = y + 1 := fun y _ _ => by unfold wrap64; omega
    simp only [markCargoOp]
    rw [w1 (x) (by omega) (by omega), w1 (x + 1) (by omega) (by omega), w1 (x + 1 + 1) (by omega) (by omega), w1 (x + 1 + 1 + 1) (by omega) (by omega), ih _ (by omega) (by omega), List.length_cons]
    omega
theorem ev_markCargoOp (t : List S114) : ∀ (a : List S114) (x : Int), (a ++ t).length ≤ 1099511627776 → Ev (fun k => laws_markCargoOpS.l0 k (a ++ t) x (a.length : Int)) ((markCargoOp t x).1, a ++ (markCargoOp t x).2) := by
  induction t with
  | nil =>
    intro a x hl
    refine Ev.step (fun k => by rw [laws_markCargoOpS.l0]) ?_
    refine ev_ite_neg (mid_nil a) ?_
    simpa [markCargoOp] using Ev.now _
  | cons y t ih =>
    intro a x hl
    refine Ev.step (fun k => by rw [laws_markCargoOpS.l0]) ?_
    refine ev_ite_pos (mid_lt a y t) (ev_ite_pos (by omega) ?_)
    simp only [Option.bind_some, mid_T114, mid_set]
    have h := ih (a ++ [(⟨x, wrap64 (x + 1), wrap64 (wrap64 (x + 1) + 1), wrap64 (wrap64 (wrap64 (x + 1) + 1) + 1)⟩ : S114)]) (wrap64 (wrap64 (wrap64 (wrap64 (x + 1) + 1) + 1) + 1)) (by simp at hl ⊢; omega)
    rw [← mid_app, ← mid_next a _ t (by simp at hl ⊢; omega)] at h
    exact ev_eq h (by simp [markCargoOp])
theorem ev_markCargoOpS (l : List S114) (x : Int) (hl : l.length ≤ 1099511627776) : Ev (fun k => laws_markCargoOpS.f k l x) (markCargoOp l x) := by
  unfold laws_markCargoOpS.f
  exact ev_markCargoOp l [] x (by simpa using hl)


/-! whole numbers -/
theorem mid_I (a b : List Int) (x : Int) : rd (a ++ x :: b) (a.length : Int) = x := by simp [rd]
theorem ev_eqInt (t : List Int) : ∀ (a : List Int), (a ++ t).length ≤ 1099511627776 → Ev (fun k => laws_eqIntS.l0 k (a ++ t) (a ++ t) (a.length : Int)) true := by
  induction t with
  | nil =>
    intro a hl
    refine Ev.step (fun k => by rw [laws_eqIntS.l0]) ?_
    exact ev_ite_neg (mid_nil a) (Ev.now _)
  | cons x t ih =>
    intro a hl
    refine Ev.step (fun k => by rw [laws_eqIntS.l0]) ?_
    refine ev_ite_pos (mid_lt a x t) (ev_ite_pos (by omega) (ev_ite_pos (mid_lt a x t) (ev_ite_pos rfl ?_)))
    rw [mid_next a x t hl, mid_app]
    exact ih (a ++ [x]) (by rw [← mid_app]; exact hl)
theorem ev_eqIntS (l : List Int) (hl : l.length ≤ 1099511627776) : Ev (fun k => laws_eqIntS.f k l l) true := by
  unfold laws_eqIntS.f
  refine ev_ite_pos rfl ?_
  exact ev_eqInt l [] (by simpa using hl)
def markInt : List Int → Int → Int × List Int
  | [], x => (x, [])
  | _ :: ts, x => ((markInt ts (wrap64 (x + 1))).1, x :: (markInt ts (wrap64 (x + 1))).2)
theorem markInt_len (l : List Int) : ∀ x, (markInt l x).2.length = l.length := by
  induction l with
  | nil => intro x; rfl
  | cons t ts ih => intro x; simp [markInt, ih]
theorem markInt_fst (l : List Int) : ∀ x, 0 ≤ x → x + (l.length : Int) ≤ 4611686018427387904 → (markInt l x).1 = x + (l.length : Int) := by
  induction l with
  | nil => intro x _ _; simp [markInt]
  | cons t ts ih =>
    intro x h0 h1
    simp only [List.length_cons] at h1
    have w1 : wrap64 (x + 1) = x + 1 := by unfold wrap64; omega
    simp only [markInt]
    rw [w1, ih _ (by omega) (by omega), List.length_cons]
    omega
theorem ev_markInt (t : List Int) : ∀ (a : List Int) (x : Int), (a ++ t).length ≤ 1099511627776 → Ev (fun k => laws_markIntS.l0 k (a ++ t) x (a.length : Int)) ((markInt t x).1, a ++ (markInt t x).2) := by
  induction t with
  | nil =>
    intro a x hl
    refine Ev.step (fun k => by rw [laws_markIntS.l0]) ?_
    refine ev_ite_neg (mid_nil a) ?_
    simpa [markInt] using Ev.now _
  | cons y t ih =>
    intro a x hl
    refine Ev.step (fun k => by rw [laws_markIntS.l0]) ?_
    refine ev_ite_pos (mid_lt a y t) (ev_ite_pos (by omega) ?_)
    simp only [mid_set]
    have h := ih (a ++ [x]) (wrap64 (x + 1)) (by simp at hl ⊢; omega)
    rw [← mid_app, ← mid_next a _ t (by simp at hl ⊢; omega)] at h
    exact ev_eq h (by simp [markInt])
theorem ev_markIntS (l : List Int) (x : Int) (hl : l.length ≤ 1099511627776) : Ev (fun k => laws_markIntS.f k l x) (markInt l x) := by
  unfold laws_markIntS.f
  exact ev_markInt l [] x (by simpa using hl)
theorem ev_heldInt (t : List Int) : ∀ (a : List Int) (x : Int), (a ++ t).length ≤ 1099511627776 → Ev (fun k => laws_heldIntS.l0 k (a ++ (markInt t x).2) x (a.length : Int)) (markInt t x).1 := by
  induction t with
  | nil =>
    intro a x hl
    refine Ev.step (fun k => by rw [laws_heldIntS.l0]) ?_
    exact ev_ite_neg (mid_nil a) (Ev.now _)
  | cons y t ih =>
    intro a x hl
    refine Ev.step (fun k => by rw [laws_heldIntS.l0]) ?_
    simp only [markInt]
    refine ev_ite_pos (mid_lt a _ _) (ev_ite_pos (by omega) ?_)
    simp only [mid_I]
    refine ev_ite_pos (by first | rfl | trivial) ?_
    rw [mid_next a _ _ (by simp [markInt_len] at hl ⊢; omega), mid_app]
    exact ih (a ++ [_]) _ (by simp at hl ⊢; omega)
theorem ev_heldIntS (l : List Int) (x : Int) (hl : l.length ≤ 1099511627776) : Ev (fun k => laws_heldIntS.f k (markInt l x).2 x) (markInt l x).1 := by
  unfold laws_heldIntS.f
  exact ev_heldInt l [] x (by simpa using hl)
end Go.Proofs.Ytmdennlkgakfnaa.C
