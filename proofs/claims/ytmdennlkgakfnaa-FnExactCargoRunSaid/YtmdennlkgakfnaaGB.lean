import Derived.Test.YtmdennlkgakfnaaCL0b
import Derived.Shelf.Abstract
namespace Go.Proofs.Ytmdennlkgakfnaa.C
open Go.RowKit Go.Proofs.YtmdennlkgakfnaaW.PrintWords Go.Proofs.YtmdennlkgakfnaaW.PrintLast Go.Proofs.YtmdennlkgakfnaaW.PrintMore
set_option linter.unusedVariables false
set_option linter.unusedSimpArgs false

/-- The place of the first element that p holds of; -1. -/
def idxFn {α : Type} (p : α → Bool) : List α → Int → Int
  | [], _ => -1
  | x :: xs, i => if p x then i else idxFn p xs (i + 1)
theorem idxFn_hit {α : Type} (p : α → Bool) (xs : List α) (z : α) : ∀ (i : Int) (k : Nat), k < xs.length → (∀ j, j < k → p (xs.getD j z) = false) → p (xs.getD k z) = true → idxFn p xs i = i + k := by
  induction xs with
  | nil => intro i k hk; simp at hk
  | cons x xs ih =>
    intro i k hk hj hp
    cases k with
    | zero => simp at hp; simp [idxFn, hp]
    | succ k =>
      have h0 := hj 0 (by omega)
      simp at h0
      simp only [idxFn, h0]
      rw [if_neg (by simp), ih (i + 1) k (by simpa using hk) (fun j hjk => by have := hj (j + 1) (by omega); simpa using this) (by simpa using hp)]
      omega
theorem idxFn_miss {α : Type} (p : α → Bool) (xs : List α) (z : α) : ∀ (i : Int), (∀ j, j < xs.length → p (xs.getD j z) = false) → idxFn p xs i = -1 := by
  induction xs with
  | nil => intro i _; rfl
  | cons x xs ih =>
    intro i hj
    have h0 := hj 0 (by simp)
    simp at h0
    simp only [idxFn, h0]
    rw [if_neg (by simp)]
    exact ih (i + 1) (fun j hjk => by have := hj (j + 1) (by simpa using hjk); simpa using this)
theorem idxFn_iff {α : Type} (p : α → Bool) (xs : List α) : ∀ i : Int, 0 ≤ i → (0 ≤ idxFn p xs i ↔ xs.any p = true) := by
  induction xs with
  | nil => intro i _; simp [idxFn]
  | cons x xs ih =>
    intro i hi
    have e : idxFn p (x :: xs) i = if p x = true then i else idxFn p xs (i + 1) := rfl
    rw [e, List.any_cons]
    by_cases h : p x = true
    · rw [if_pos h, h]; simp [hi]
    · rw [if_neg h, ih (i + 1) (by omega)]; simp [h]
theorem idxFn_any {α : Type} (p : α → Bool) (xs : List α) (i : Int) (h : 0 ≤ i) : (decide (0 ≤ idxFn p xs i)) = xs.any p := by
  rw [Bool.eq_iff_iff, decide_eq_true_iff]; exact idxFn_iff p xs i h

/-! slices.IndexFunc: function 157 -/
set_option maxHeartbeats 2000000 in
set_option maxRecDepth 100000 in
theorem idx157 (g : Nat) (lb : Array Value) (p : S116 → Bool) (A0 : Option Addr) (c0 : Nat) (l0 : List S116) (w : World) (hr0 : Kd.C k116 w A0 l0.length l0)
    (eg : ∀ args w, (callFunc g args).run Try.prog w = .ok (.enter g args) w)
    (hp : ∀ x W, Below w.heap.size w W → Calls Try.prog g (#[.agg #[.int .i64 x.f0, .int .i64 x.f1, .int .i64 x.f2, .int .i64 x.f3, .int .i64 x.f4]] ++ lb) W fun e w' => e = .returned (.bool (p x)) ∧ Below w.heap.size w w') :
    Calls Try.prog 157 #[.slice A0 l0.length c0, .func (.func g) #[] lb] w fun e w' => e = .returned (.int .i64 (idxFn p l0 0)) ∧ Below w.heap.size w w' := by
  have hu116 := Try.underlying116
  have HR0 := Aside0.mk hr0
  have HP := Aside0.mk hp
  have hmax : l0.length ≤ 9223372036854775807 := hr0.2.1
  clear hr0 hp
  go_enter Try.func157, Try.ntmps157
  go_wp2
  go_loopg [5, 8] l0.length (fun gg _ s8 wr => ∃ kk : Nat, kk ≤ l0.length ∧ l0.length - kk ≤ gg ∧ s8 = .int .i64 kk ∧ Aside0 (Below w.heap.size w wr) ∧ Aside0 (∀ j, j < kk → p (l0.getD j z116) = false))
  case atStart => exact ⟨0, Nat.zero_le _, by omega, rfl, ⟨Below.refl _ w⟩, ⟨fun j hj => absurd hj (Nat.not_lt_zero _)⟩⟩
  case round =>
    obtain ⟨kk, hkk, hg, rfl, BW, A⟩ := hrel
    by_cases hlt : kk < l0.length
    · have hltz : (kk : Int) < (l0.length : Int) := by omega
      have hk0 : 0 ≤ (kk : Int) := by omega
      obtain ⟨ad, eA, hx0, hx1, hx2, hx3, hx4⟩ := at_T116 HR0.out (kk : Int) hk0 hltz
      cases eA
      simp only [Int.toNat_natCast] at hx0 hx1 hx2 hx3 hx4
      replace hx0 := (BW.out.cell (World.block_lt_of_cell? w _ hx0)).trans hx0
      replace hx1 := (BW.out.cell (World.block_lt_of_cell? w _ hx1)).trans hx1
      replace hx2 := (BW.out.cell (World.block_lt_of_cell? w _ hx2)).trans hx2
      replace hx3 := (BW.out.cell (World.block_lt_of_cell? w _ hx3)).trans hx3
      replace hx4 := (BW.out.cell (World.block_lt_of_cell? w _ hx4)).trans hx4
      have hcall := HP.out (rd_T116 l0 kk) wr BW.out
      have B : Aside0 (rd_T116 l0 (kk : Int) = l0.getD kk z116) := ⟨by simp [rd_T116]⟩
      generalize hy : rd_T116 l0 (kk : Int) = y at hx0 hx1 hx2 hx3 hx4 hcall B
      clear hy
      cases hq : p y with
      | true =>
        rw [hq] at hcall
        have Hq := Aside0.mk hq
        clear hq
        go_wp2_with (go_at_fn g; refine hcall.mono ?_; rintro e w' ⟨rfl, hb'⟩)
        go_ret
        refine ⟨?_, hb'⟩
        rw [idxFn_hit p l0 z116 0 kk hlt A.out (by rw [← B.out]; exact Hq.out)]
        simp
      | false =>
        rw [hq] at hcall
        have Hq := Aside0.mk hq
        clear hq
        go_wp2_with (go_at_fn g; refine hcall.mono ?_; rintro e w' ⟨rfl, hb'⟩)
        go_roundg (l0.length - (kk + 1))
        case measure => omega
        case rel =>
          refine ⟨kk + 1, by omega, by omega, by go_num, ⟨hb'⟩, ⟨fun j hj => ?_⟩⟩
          by_cases e : j = kk
          · subst e
            rw [← B.out]; exact Hq.out
          · exact A.out j (by omega)
    · have hltz : ¬ (kk : Int) < (l0.length : Int) := by omega
      go_wp2
      go_ret
      refine ⟨?_, BW.out⟩
      rw [idxFn_miss p l0 z116 0 (fun j hj => A.out j (by omega))]
      rfl

/-! slices.ContainsFunc: function 150 -/
set_option maxHeartbeats 2000000 in
theorem cont150 (g : Nat) (lb : Array Value) (p : S116 → Bool) (A0 : Option Addr) (c0 : Nat) (l0 : List S116) (w : World) (hr0 : Kd.C k116 w A0 l0.length l0)
    (eg : ∀ args w, (callFunc g args).run Try.prog w = .ok (.enter g args) w)
    (hp : ∀ x W, Below w.heap.size w W → Calls Try.prog g (#[.agg #[.int .i64 x.f0, .int .i64 x.f1, .int .i64 x.f2, .int .i64 x.f3, .int .i64 x.f4]] ++ lb) W fun e w' => e = .returned (.bool (p x)) ∧ Below w.heap.size w w') :
    Calls Try.prog 150 #[.slice A0 l0.length c0, .func (.func g) #[] lb] w fun e w' => e = .returned (.bool (l0.any p)) ∧ Below w.heap.size w w' := by
  rw [← idxFn_any p l0 0 (by omega)]
  go_enter Try.func150, Try.ntmps150
  go_wp2_with (go_at_call 157; refine (idx157 g lb p A0 c0 l0 _ hr0 eg hp).mono ?_; rintro e w' ⟨rfl, hb'⟩)
  go_ret
  exact ⟨rfl, hb'⟩

/-! impl.TanksOk: function 128 -/
theorem impl_in.is (a b c : Int) : impl_in.f a b c = some (decide (b ≤ a ∧ a ≤ c)) := by
  unfold impl_in.f
  by_cases h : a ≥ b
  · rw [if_pos h]; congr 1; rw [Bool.eq_iff_iff]; simp; omega
  · rw [if_neg h]; congr 1; rw [Bool.eq_iff_iff]; simp; omega
/-- A tank that is none. -/
def tankBad (x : S116) : Bool := (impl_TanksOk_1.f x.f0 x.f1 x.f2 x.f3 x.f4).getD false
theorem tankBad_is (x : S116) : impl_TanksOk_1.f x.f0 x.f1 x.f2 x.f3 x.f4 = some (tankBad x) := by
  have h : ∃ b, impl_TanksOk_1.f x.f0 x.f1 x.f2 x.f3 x.f4 = some b := by
    unfold impl_TanksOk_1.f
    simp only [impl_in.is, Option.bind_some]
    repeat' split
    all_goals exact ⟨_, rfl⟩
  obtain ⟨b, h⟩ := h
  rw [h, tankBad, h]; rfl
def impl_TanksOk.f (l0 : List S116) : Option Bool := some (if 1 ≤ (l0.length : Int) ∧ (l0.length : Int) ≤ 12 then !(l0.any tankBad) else false)
set_option maxHeartbeats 2000000 in
theorem impl_TanksOk.calls (A0 : Option Addr) (c0 : Nat) (l0 : List S116) (r : Bool) (w : World) (hr0 : Kd.C k116 w A0 l0.length l0) (hc0 : l0.length ≤ c0) (h : impl_TanksOk.f l0 = some r) :
    Calls Try.prog 128 #[.slice A0 l0.length c0] w fun e w' => e = .returned (.bool r) ∧ Below w.heap.size w w' := by
  have HR0 := Aside0.mk hr0
  clear hr0 hc0
  obtain rfl := Option.some.inj h
  clear h
  have HC : Aside0 (∀ W, Below w.heap.size w W → Calls Try.prog 150 #[.slice A0 l0.length c0, .func (.func 151) #[] #[]] W fun e w' => e = .returned (.bool (l0.any tankBad)) ∧ Below w.heap.size w w') :=
    ⟨fun W hb => (cont150 151 #[] tankBad A0 c0 l0 W (Kd.C_below HR0.out hb) (enters_ Try.func151 (by kernel_rfl) rfl) (fun x W1 hb1 => (impl_TanksOk_1.calls _ _ _ _ _ _ W1 (tankBad_is x)).mono fun e w' ⟨he, hb2⟩ => ⟨he, below_step hb1 hb2⟩)).mono fun e w' ⟨he, hb2⟩ => ⟨he, below_step hb hb2⟩⟩
  by_cases hl : 1 ≤ (l0.length : Int) ∧ (l0.length : Int) ≤ 12
  · rw [if_pos hl]
    have HI : Aside0 (impl_in.f (l0.length : Int) 1 12 = some true) := ⟨by rw [impl_in.is]; simp [hl]⟩
    clear hl
    go_enter Try.func128, Try.ntmps128
    go_wp2_with (first
      | (go_at_call 74; refine (impl_in.calls _ _ _ _ _ HI.out).mono ?_; rintro e w1 ⟨rfl, ⟨nq, rfl⟩⟩)
      | (go_at_call 150; refine (HC.out _ (pw_below_drewN (Below.refl _ _) _)).mono ?_; rintro e w1 ⟨rfl, hb⟩))
    go_ret
    exact ⟨rfl, hb⟩
  · rw [if_neg hl]
    have HI : Aside0 (impl_in.f (l0.length : Int) 1 12 = some false) := ⟨by rw [impl_in.is]; simp [hl]⟩
    clear hl
    go_enter Try.func128, Try.ntmps128
    go_wp2_with (first
      | (go_at_call 74; refine (impl_in.calls _ _ _ _ _ HI.out).mono ?_; rintro e w1 ⟨rfl, ⟨nq, rfl⟩⟩))
    go_ret
    exact ⟨rfl, pw_below_drewN (Below.refl _ _) _⟩
end Go.Proofs.Ytmdennlkgakfnaa.C
