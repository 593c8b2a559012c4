import Derived.Test.YtmdennlkgakfnaaGS
namespace Go.Proofs.Ytmdennlkgakfnaa.C
open Go.RowKit Go.Proofs.YtmdennlkgakfnaaW.PrintWords Go.Proofs.YtmdennlkgakfnaaW.PrintLast Go.Proofs.YtmdennlkgakfnaaW.PrintMore
set_option linter.unusedVariables false
set_option linter.unusedSimpArgs false

theorem sBad_eq (l : List S116) (K A B M lean : Int) : sBad l K A B M lean = stepBad l K A B M lean := by
  unfold sBad stepBad opB mostOf k45
  cases tanksB l
  · simp
  cases h1 : inB K 1 5
  · simp
  cases inB A 0 ((l.length : Int) - 1)
  · simp
  have hk : 1 ≤ K ∧ K ≤ 5 := by simpa [inB] using h1
  by_cases h4 : K ≥ 4
  · have h45 : (K == 4 || K == 5) = true := by have : K = 4 ∨ K = 5 := by omega
                                               rcases this with rfl | rfl <;> rfl
    have h3 : (K == 3) = false := by simp; omega
    rw [if_pos h4, h45, h3]
    simp
  · have h45 : (K == 4 || K == 5) = false := by simp; omega
    rw [if_neg h4, h45]
    simp only [Bool.false_eq_true, if_false]
    cases inB M 1 100000
    · simp
    · simp only [Bool.not_true, Bool.false_or, Bool.true_and, bne]
      cases (K == 3) <;> cases inB B 0 ((l.length : Int) - 1) <;> cases (B == A) <;> simp
theorem rd_mem (l : List S116) (i : Int) (h0 : 0 ≤ i) (h1 : i < (l.length : Int)) : rd_T116 l i ∈ l := by
  have hi : i.toNat < l.length := by omega
  have : rd_T116 l i = l[i.toNat] := by simp [rd_T116, hi]
  rw [this]
  exact List.getElem_mem hi
theorem rd_set_ne (l : List S116) (i j : Int) (x : S116) (h0 : 0 ≤ i) (h1 : 0 ≤ j) (h : ¬ i = j) : rd_T116 (l.set i.toNat x) j = rd_T116 l j := by
  simp only [rd_T116, List.getD_eq_getElem?_getD]
  rw [List.getElem?_set_ne (by omega)]
structure TankIs (x : S116) : Prop where
  h0 : 0 ≤ x.f0
  h1 : x.f0 ≤ x.f1
  h2 : x.f1 ≤ 100000
  h3 : 0 ≤ x.f3
  h4 : x.f3 ≤ 1000
  h5 : 0 ≤ x.f4
  h6 : x.f4 ≤ 1000
theorem tank_is (l : List S116) (h : tanksB l = true) (i : Int) (h0 : 0 ≤ i) (h1 : i < (l.length : Int)) : TankIs (rd_T116 l i) := by
  unfold tanksB at h
  split at h
  · have hb : tankBad (rd_T116 l i) = false := by
      simp only [Bool.not_eq_true', List.any_eq_false] at h
      simpa using h _ (rd_mem l i h0 h1)
    rw [tankBad_eq] at hb
    simp only [Bool.or_eq_false_iff, Bool.not_eq_false', inB, decide_eq_true_eq, decide_eq_false_iff_not] at hb
    obtain ⟨⟨⟨⟨⟨a, b⟩, c⟩, d⟩, e⟩, f⟩ := hb
    exact ⟨a.1, a.2, by omega, d.1, d.2, e.1, e.2⟩
  · cases h
theorem w64 (x : Int) (h : -1000000000 ≤ x) (h' : x ≤ 1000000000) : wrap64 x = x := by unfold wrap64; omega
theorem any1 (p : Int → Bool) (a : Int) : [a].any p = p a := by simp
theorem any2 (p : Int → Bool) (a b : Int) : [a, b].any p = (p a || p b) := by simp
theorem tails (l L LI : List S116) (lean : Int) (D O Bn BI : Bool) (p q z : Prop) [Decidable p] [Decidable q] [Decidable z] (hp : D = true ↔ p) (hq : ¬ p → (O = true ↔ q)) (hz : ¬ p → ¬ q → ¬ z) (hB : ¬ p → ¬ q → Bn = BI ∧ L = LI) (hlen : LI.length = l.length) :
    (if D = true then some (l, (2 : Int)) else if O = true then some (l, 3) else if Bn = true then some (l, 4) else if sizeV (leanV 0 L) > lean ∧ sizeV (leanV 0 L) > sizeV (leanV 0 l) then some (l, 5) else some (L, 0)) =
      (if p then some (l, (2 : Int)) else if q then some (l, 3) else if z then none else if BI = true then some (l, 4) else if sizeV (leanV 0 LI) > lean ∧ sizeV (leanV 0 LI) > sizeV (leanV 0 l) then some (l, 5) else some (LI, 0)) ∧
    ∃ r : List S116 × Int, (if p then some (l, (2 : Int)) else if q then some (l, 3) else if z then none else if BI = true then some (l, 4) else if sizeV (leanV 0 LI) > lean ∧ sizeV (leanV 0 LI) > sizeV (leanV 0 l) then some (l, 5) else some (LI, 0)) = some r ∧ r.1.length = l.length := by
  by_cases h : p
  · rw [if_pos h, if_pos (hp.2 h)]; exact ⟨rfl, _, rfl, rfl⟩
  · rw [if_neg h, if_neg (fun e => h (hp.1 e))]
    by_cases h2 : q
    · rw [if_pos h2, if_pos ((hq h).2 h2)]; exact ⟨rfl, _, rfl, rfl⟩
    · obtain ⟨rfl, rfl⟩ := hB h h2
      rw [if_neg h2, if_neg (fun e => h2 ((hq h).1 e)), if_neg (hz h h2)]
      refine ⟨rfl, ?_⟩
      split
      · exact ⟨_, rfl, rfl⟩
      · split
        · exact ⟨_, rfl, rfl⟩
        · exact ⟨_, rfl, hlen⟩
theorem step_eq (l : List S116) (K A B M lean : Int) (hl : l.length ≤ 1048576) : spec_CargoStep.f l K A B M lean = impl_CargoStep.f l K A B M lean ∧ ∃ r, impl_CargoStep.f l K A B M lean = some r ∧ r.1.length = l.length := by
  unfold spec_CargoStep.f impl_CargoStep.f
  rw [if_pos (show l.length ≤ 1099511627776 by omega), if_pos (show l.length ≤ 3518437208882 by omega), sBad_eq]
  cases hb : stepBad l K A B M lean with
  | true => exact ⟨rfl, (l, 1), rfl, rfl⟩
  | false =>
    simp only [Bool.false_eq_true, if_false]
    have hbb := hb
    simp only [stepBad, Bool.or_eq_false_iff, Bool.not_eq_false'] at hbb
    obtain ⟨⟨⟨⟨⟨hT, h1⟩, h2⟩, h3⟩, h4⟩, h5⟩ := hbb
    have hK : 1 ≤ K ∧ K ≤ 5 := by simpa [inB] using h1
    have hA : 0 ≤ A ∧ A < (l.length : Int) := by simp only [inB, decide_eq_true_eq] at h2; omega
    obtain ⟨hA0, hA1⟩ := hA
    have hM : 1 ≤ M ∧ M ≤ 100000 := by
      have hmo : mostOf K = 100 ∨ mostOf K = 100000 := by unfold mostOf; split <;> simp
      have h3' : 1 ≤ M ∧ M ≤ mostOf K := by simpa [inB] using h3
      omega
    obtain ⟨x0, x1, x2, x3, x4, x5, x6⟩ := tank_is l hT A hA0 hA1
    have hAn : A.toNat < l.length := by omega
    have hs : wrap64 ((rd_T116 l A).f0 - M) = (rd_T116 l A).f0 - M := w64 _ (by omega) (by omega)
    have hs1 : wrap64 ((rd_T116 l A).f1 - ((rd_T116 l A).f0 - M)) = (rd_T116 l A).f1 - ((rd_T116 l A).f0 - M) := w64 _ (by omega) (by omega)
    have hsA : wrap64 ((rd_T116 l A).f0 + M) = (rd_T116 l A).f0 + M := w64 _ (by omega) (by omega)
    have hno : ¬ ((K = 2 ∨ K = 3) ∧ wrap64 ((rd_T116 l A).f0 - M) ≥ 0 ∧ wrap64 ((rd_T116 l A).f1 - wrap64 ((rd_T116 l A).f0 - M)) = 0) := by rw [hs, hs1]; omega
    rw [if_neg hno]
    have hset : ∀ z, rd_T116 (l.set A.toNat z) A = z := fun z => rd_set116 l A z hAn
    have hout0 : (outT (rd_T116 l A) M).f0 = (rd_T116 l A).f0 - M := hs
    have hout1 : (outT (rd_T116 l A) M).f1 = (rd_T116 l A).f1 := rfl
    have hso : ¬ (rd_T116 l A).f0 < M → sOutT (rd_T116 l A) M = outT (rd_T116 l A) M := fun h => by unfold sOutT; rw [hs, if_pos (by omega)]
    have hsd : (sOutT (rd_T116 l A) M).f0 = (rd_T116 l A).f0 - M := by
      unfold sOutT; split
      · exact hs
      · exact hs
    have hcase : K = 1 ∨ K = 2 ∨ K = 3 ∨ K = 4 ∨ K = 5 := by omega
    rcases hcase with rfl | rfl | rfl | rfl | rfl
    · have hf0 : (fillT (rd_T116 l A) M).f0 = (rd_T116 l A).f0 + M := hsA
      have hf1 : (fillT (rd_T116 l A) M).f1 = (rd_T116 l A).f1 := rfl
      have e1 : changed l 1 A B M = l.set A.toNat (fillT (rd_T116 l A) M) := by simp [changed, isFrom, isTo, toAt, k45]
      have e2 : sChanged l 1 A B M = l.set A.toNat (fillT (rd_T116 l A) M) := by simp [sChanged]
      refine tails l _ _ lean _ _ _ _ _ _ _ ?_ (fun _ => ?_) (fun _ _ => by simp [isFrom]) (fun _ _ => ?_) (by rw [e1]; simp)
      · rw [e2]; simp only [dryB, sNamed, show ((1 : Int) = 3) = False by simp, if_false, any1, hset, decide_eq_true_eq, isFrom]; simp; omega
      · rw [e2]; simp only [overB, sNamed, show ((1 : Int) = 3) = False by simp, if_false, any1, hset, decide_eq_true_eq, toAt, if_true, hsA]; simp [isTo]; omega
      · rw [e1, e2]; simp [burnsB, sNamed, hset]
    · have e1 : changed l 2 A B M = l.set A.toNat (outT (rd_T116 l A) M) := by simp [changed, isFrom, isTo, k45]
      have e2 : sChanged l 2 A B M = l.set A.toNat (sOutT (rd_T116 l A) M) := by simp [sChanged]
      have hp : (isFrom 2 = true ∧ (rd_T116 l A).f0 < M) ↔ (rd_T116 l A).f0 < M := by simp [isFrom]
      refine tails l _ _ lean _ _ _ _ _ _ _ ?_ (fun h => ?_) (fun h _ => by rw [hs, hs1]; intro h'; have := h'.2; omega) (fun h _ => ?_) (by rw [e1]; simp)
      · rw [e2, hp]; simp only [dryB, sNamed, show ((2 : Int) = 3) = False by simp, if_false, any1, hset, decide_eq_true_eq]; omega
      · rw [hp] at h; rw [e2, hso h]; simp only [overB, sNamed, show ((2 : Int) = 3) = False by simp, if_false, any1, hset, decide_eq_true_eq]; simp [isTo]; omega
      · rw [hp] at h; rw [e1, e2, hso h]; simp [burnsB, sNamed, hset]
    · have h4' := h4
      simp only [beq_self_eq_true, Bool.true_and, Bool.or_eq_false_iff, Bool.not_eq_false', inB, decide_eq_true_eq, beq_eq_false_iff_ne] at h4'
      have hB0 : 0 ≤ B := h4'.1.1
      have hB1 : B < (l.length : Int) := by omega
      have hBA : ¬ A = B := fun e => h4'.2 e.symm
      obtain ⟨y0, y1, y2, -, -, -, -⟩ := tank_is l hT B hB0 hB1
      have hBn : B.toNat < l.length := by omega
      have hs2 : wrap64 ((rd_T116 l B).f0 + M) = (rd_T116 l B).f0 + M := w64 _ (by omega) (by omega)
      have hn : ∀ z, rd_T116 (l.set A.toNat z) B = rd_T116 l B := fun z => rd_set_ne l A B z hA0 hB0 hBA
      have e1 : changed l 3 A B M = (l.set A.toNat (outT (rd_T116 l A) M)).set B.toNat (fillT (rd_T116 l B) M) := by simp [changed, isFrom, isTo, toAt, k45, hn]
      have e2 : sChanged l 3 A B M = (l.set A.toNat (sOutT (rd_T116 l A) M)).set B.toNat (fillT (rd_T116 l B) M) := by simp [sChanged, hn]
      have hrA : ∀ z z', rd_T116 ((l.set A.toNat z).set B.toNat z') A = z := fun z z' => by rw [rd_set_ne _ B A z' hB0 hA0 (fun e => hBA e.symm)]; exact hset z
      have hrB : ∀ z z', rd_T116 ((l.set A.toNat z).set B.toNat z') B = z' := fun z z' => rd_set116 _ B z' (by simpa using hBn)
      have hf0 : (fillT (rd_T116 l B) M).f0 = (rd_T116 l B).f0 + M := hs2
      have hf1 : (fillT (rd_T116 l B) M).f1 = (rd_T116 l B).f1 := rfl
      have hp : (isFrom 3 = true ∧ (rd_T116 l A).f0 < M) ↔ (rd_T116 l A).f0 < M := by simp [isFrom]
      refine tails l _ _ lean _ _ _ _ _ _ _ ?_ (fun h => ?_) (fun h _ => by rw [hs, hs1]; intro h'; have := h'.2; omega) (fun h _ => ?_) (by rw [e1]; simp)
      · rw [e2, hp]; simp only [dryB, sNamed, if_true, any2, hrA, hrB, Bool.or_eq_true, decide_eq_true_eq]; omega
      · rw [hp] at h; rw [e2, hso h]; simp only [overB, sNamed, if_true, any2, hrA, hrB, Bool.or_eq_true, decide_eq_true_eq, toAt, show ((3 : Int) = 1) = False by simp, if_false, hs2]; simp [isTo]; omega
      · rw [hp] at h; rw [e1, e2, hso h]; simp [burnsB, sNamed, hrA, hrB]
    · have e1 : changed l 4 A B M = l.set A.toNat (gasT (rd_T116 l A) M) := by simp [changed, isFrom, isTo, k45]
      have e2 : sChanged l 4 A B M = l.set A.toNat (gasT (rd_T116 l A) M) := by simp [sChanged]
      have hf0 : (gasT (rd_T116 l A) M).f0 = (rd_T116 l A).f0 := rfl
      have hf1 : (gasT (rd_T116 l A) M).f1 = (rd_T116 l A).f1 := rfl
      refine tails l _ _ lean _ _ _ _ _ _ _ ?_ (fun _ => ?_) (fun _ _ => by simp [isFrom]) (fun _ _ => ?_) (by rw [e1]; simp)
      · rw [e2]; simp only [dryB, sNamed, show ((4 : Int) = 3) = False by simp, if_false, any1, hset, decide_eq_true_eq, isFrom]; simp; omega
      · rw [e2]; simp only [overB, sNamed, show ((4 : Int) = 3) = False by simp, if_false, any1, hset, decide_eq_true_eq]; simp [isTo]; omega
      · rw [e1, e2]; simp [burnsB, sNamed, hset]
    · have e1 : changed l 5 A B M = l.set A.toNat (ventT (gasT (rd_T116 l A) M) M) := by simp [changed, isFrom, isTo, k45, hset]
      have e2 : sChanged l 5 A B M = l.set A.toNat (ventT (gasT (rd_T116 l A) M) M) := by simp [sChanged, hset]
      have hf0 : (ventT (gasT (rd_T116 l A) M) M).f0 = (rd_T116 l A).f0 := rfl
      have hf1 : (ventT (gasT (rd_T116 l A) M) M).f1 = (rd_T116 l A).f1 := rfl
      refine tails l _ _ lean _ _ _ _ _ _ _ ?_ (fun _ => ?_) (fun _ _ => by simp [isFrom]) (fun _ _ => ?_) (by rw [e1]; simp)
      · rw [e2]; simp only [dryB, sNamed, show ((5 : Int) = 3) = False by simp, if_false, any1, hset, decide_eq_true_eq, isFrom]; simp; omega
      · rw [e2]; simp only [overB, sNamed, show ((5 : Int) = 3) = False by simp, if_false, any1, hset, decide_eq_true_eq]; simp [isTo]; omega
      · rw [e1, e2]; simp [burnsB, sNamed, hset]
end Go.Proofs.Ytmdennlkgakfnaa.C
