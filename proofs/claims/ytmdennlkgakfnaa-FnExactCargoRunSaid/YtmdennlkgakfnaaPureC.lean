import Derived.Test.YtmdennlkgakfnaaGQ
import Derived.Test.YtmdennlkgakfnaaCL1a
import Derived.Test.YtmdennlkgakfnaaCL2a
namespace Go.Proofs.Ytmdennlkgakfnaa.C
open Go.RowKit Go.Proofs.YtmdennlkgakfnaaW.PrintWords Go.Proofs.YtmdennlkgakfnaaW.PrintLast Go.Proofs.YtmdennlkgakfnaaW.PrintMore
set_option linter.unusedVariables false
set_option linter.unusedSimpArgs false

def stepV (l : List S116) (o : S114) (lean : Int) : List S116 × Int := (impl_CargoStep.f l o.f0 o.f1 o.f2 o.f3 lean).getD (l, 0)
theorem stepV_is (l : List S116) (o : S114) (lean : Int) (hl : l.length ≤ 1048576) : impl_CargoStep.f l o.f0 o.f1 o.f2 o.f3 lean = some (stepV l o lean) ∧ spec_CargoStep.f l o.f0 o.f1 o.f2 o.f3 lean = some (stepV l o lean) ∧ (stepV l o lean).1.length = l.length := by
  obtain ⟨h, r, hr, hlen⟩ := step_eq l o.f0 o.f1 o.f2 o.f3 lean hl
  have e : stepV l o lean = r := by unfold stepV; rw [hr]; rfl
  rw [e, h]
  exact ⟨hr, hr, hlen⟩
def runV (lean : Int) : List S114 → List S116 → List Int → List S116 × List Int
  | [], l, cs => (l, cs)
  | o :: os, l, cs => runV lean os (stepV l o lean).1 (cs ++ [(stepV l o lean).2])
theorem runV_len (lean : Int) (os : List S114) : ∀ (l : List S116) (cs : List Int), l.length ≤ 1048576 → (runV lean os l cs).1.length = l.length ∧ (runV lean os l cs).2.length = cs.length + os.length := by
  induction os with
  | nil => intro l cs _; simp [runV]
  | cons o os ih =>
    intro l cs hl
    obtain ⟨-, -, h⟩ := stepV_is l o lean hl
    have := ih (stepV l o lean).1 (cs ++ [(stepV l o lean).2]) (by omega)
    simp only [runV]
    rw [this.1, this.2, h]
    simp
    omega
theorem ev_irun (lean : Int) (t : List S114) : ∀ (a : List S114) (l : List S116) (cs : List Int), (a ++ t).length ≤ 100 → cs.length = a.length → l.length ≤ 1048576 → Ev (fun k => impl_CargoRun.l0 k lean l cs (a ++ t) ((a ++ t).length : Int) (a.length : Int)) (runV lean t l cs) := by
  induction t with
  | nil =>
    intro a l cs hl hc hll
    refine Ev.step (fun k => by rw [impl_CargoRun.l0]) ?_
    refine ev_ite_neg (by simp) (ev_bind1 (a := cs) (by unfold impl_own_int.f; rw [if_pos (by simp at hl; omega)]) (Ev.now _))
  | cons o t ih =>
    intro a l cs hl hc hll
    obtain ⟨h1, -, h3⟩ := stepV_is l o lean hll
    refine Ev.step (fun k => by rw [impl_CargoRun.l0]) ?_
    refine ev_ite_pos (mid_lt a o t) (ev_ite_pos (by omega) (ev_ite_pos (mid_lt a o t) ?_))
    simp only [mid_T114]
    refine ev_bind1 h1 (ev_ite_pos (by simp at hl; omega) ?_)
    rw [mid_next a o t (by omega), mid_app a o t]
    exact ih (a ++ [o]) (stepV l o lean).1 (cs ++ [(stepV l o lean).2]) (by rw [← mid_app]; exact hl) (by simp [hc]) (by omega)
theorem ev_irunF (lean : Int) (l : List S116) (os : List S114) (hl : l.length ≤ 1048576) : Ev (fun k => impl_CargoRun.f k l os lean) (if os.length ≤ 100 then runV lean os l [] else (l, [])) := by
  unfold impl_CargoRun.f
  refine ev_bind1 (a := l) (by unfold impl_own_impl_CargoTank.f; rw [if_pos (by omega)]) ?_
  by_cases h : os.length ≤ 100
  · rw [if_pos h]
    refine ev_ite_neg (by omega) ?_
    have := ev_irun lean os [] l [] (by simpa using h) rfl hl
    simpa using this
  · rw [if_neg h]
    exact ev_ite_pos (by omega) (Ev.now _)
theorem ev_srun (lean : Int) (t : List S114) : ∀ (a : List S114) (l : List S116) (cs : List Int), (a ++ t).length ≤ 100 → cs.length = a.length → l.length ≤ 1048576 → Ev (fun k => spec_CargoRun.l0 k (a ++ t) lean l cs (a.length : Int)) (runV lean t l cs) := by
  induction t with
  | nil =>
    intro a l cs hl hc hll
    refine Ev.step (fun k => by rw [spec_CargoRun.l0]) ?_
    exact ev_ite_neg (mid_nil a) (Ev.now _)
  | cons o t ih =>
    intro a l cs hl hc hll
    obtain ⟨-, h2, h3⟩ := stepV_is l o lean hll
    refine Ev.step (fun k => by rw [spec_CargoRun.l0]) ?_
    refine ev_ite_pos (mid_lt a o t) (ev_ite_pos (by omega) (ev_ite_pos (by omega) ?_))
    simp only [mid_T114]
    refine ev_bind1 h2 (ev_ite_pos (by simp at hl; omega) ?_)
    rw [mid_next a o t (by omega), mid_app a o t]
    exact ih (a ++ [o]) (stepV l o lean).1 (cs ++ [(stepV l o lean).2]) (by rw [← mid_app]; exact hl) (by simp [hc]) (by omega)
theorem ev_srunF (lean : Int) (l : List S116) (os : List S114) (hl : l.length ≤ 1048576) : Ev (fun k => spec_CargoRun.f k l os lean) (if os.length ≤ 100 then runV lean os l [] else (l, [])) := by
  unfold spec_CargoRun.f
  refine ev_bind1 (a := []) rfl (ev_ite_pos (by simp; omega) ?_)
  simp only [List.nil_append]
  by_cases h : os.length ≤ 100
  · rw [if_pos h]
    have := ev_srun lean os [] l [] (by simpa using h) rfl hl
    simpa using this
  · rw [if_neg h]
    refine Ev.step (fun k => by rw [spec_CargoRun.l0]) ?_
    exact ev_ite_pos (by omega) (ev_ite_neg (by omega) (Ev.now _))
theorem mark_ends (l : List S116) (c : List Int) (hl : l.length ≤ 1048576) (hc : c.length ≤ 100) : (markCargoTank l 1).1 = 1 + 5 * (l.length : Int) ∧ (markInt c (markCargoTank l 1).1).1 = 1 + 5 * (l.length : Int) + c.length := by
  have h1 := markCargoTank_fst l 1 (by omega) (by omega)
  refine ⟨h1, ?_⟩
  rw [h1, markInt_fst c _ (by omega) (by omega)]
end Go.Proofs.Ytmdennlkgakfnaa.C
namespace Go.Proofs.Ytmdennlkgakfnaa.Pure
open Go.RowKit Go.Proofs.YtmdennlkgakfnaaW.PrintWords Go.Proofs.YtmdennlkgakfnaaW.PrintLast Go.Proofs.YtmdennlkgakfnaaW.PrintMore Go.Proofs.Ytmdennlkgakfnaa.C
/-- The law, over lists: whatever the tanks, the ops and the lean. -/
theorem FnExactCargoRun (l0 : List S118) (h0 : l0.length ≤ 9223372036854775807) (l1 : List S120) (h1 : l1.length ≤ 9223372036854775807) (a2 : Int) : ∃ k, laws_FnExactCargoRun.f k l0 l1 a2 = some true := by
  refine Ev.rounds ?_
  unfold laws_FnExactCargoRun.f
  have hw0 : wrap64 (1048576 - (l0.length : Int)) = 1048576 - (l0.length : Int) := by unfold wrap64; omega
  by_cases c0 : (l0.length : Int) > 1048576
  · refine ev_bind1 (a := -1) (by unfold laws_szCargoTankS.f; rw [hw0, if_pos (by omega)]) ?_
    exact ev_ite_pos (by omega) (Ev.now _)
  refine ev_bind1 (a := 1048576 - (l0.length : Int)) (by unfold laws_szCargoTankS.f; rw [hw0, if_neg (by omega)]) ?_
  refine ev_ite_neg (by omega) ?_
  have hw1 : wrap64 (1048576 - (l0.length : Int) - (l1.length : Int)) = 1048576 - (l0.length : Int) - (l1.length : Int) := by unfold wrap64; omega
  by_cases c1 : (l0.length : Int) + (l1.length : Int) > 1048576
  · refine ev_bind1 (a := -1) (by unfold laws_szCargoOpS.f; rw [hw1, if_pos (by omega)]) ?_
    exact ev_ite_pos (by omega) (Ev.now _)
  refine ev_bind1 (a := 1048576 - (l0.length : Int) - (l1.length : Int)) (by unfold laws_szCargoOpS.f; rw [hw1, if_neg (by omega)]) ?_
  refine ev_ite_neg (by omega) ?_
  have hl0 : l0.length ≤ 1048576 := by omega
  have hl1 : l1.length ≤ 1048576 := by omega
  have T := ev_toCargoTankS l0 hl0
  have O := ev_toCargoOpS l1 hl1
  have hT : (l0.map convCargoTank).length ≤ 1048576 := by simpa using hl0
  have hO : (l1.map convCargoOp).length ≤ 1048576 := by simpa using hl1
  have W := ev_srunF a2 (l0.map convCargoTank) (l1.map convCargoOp) hT
  have G := ev_irunF a2 (l0.map convCargoTank) (l1.map convCargoOp) hT
  generalize hR : (if (l1.map convCargoOp).length ≤ 100 then runV a2 (l1.map convCargoOp) (l0.map convCargoTank) [] else (l0.map convCargoTank, [])) = R at W G
  have hRl : R.1.length ≤ 1048576 ∧ R.2.length ≤ 100 := by
    rw [← hR]
    split
    · rename_i h
      have := runV_len a2 (l1.map convCargoOp) (l0.map convCargoTank) [] hT
      rw [this.1, this.2]
      exact ⟨hT, by simpa using h⟩
    · exact ⟨hT, by simp⟩
  obtain ⟨R1, R2⟩ := R
  obtain ⟨hR1, hR2⟩ := hRl
  simp only at hR1 hR2
  clear hR
  generalize l0.map convCargoTank = T0 at T hT W G
  generalize l1.map convCargoOp = O0 at O hO W G
  have E1 : Ev (fun k => laws_eqCargoTankS.f k R1 R1) true := ev_eqCargoTankS R1 (by omega)
  have E2 : Ev (fun k => laws_eqIntS.f k R2 R2) true := ev_eqIntS R2 (by omega)
  have X1 := ev_eqCargoTankS T0 (by omega)
  have X2 := ev_eqCargoOpS O0 (by omega)
  have MT := ev_markCargoTankS T0 1 (by omega)
  have hMT := markCargoTank_fst T0 1 (by omega) (by omega)
  have MO := ev_markCargoOpS O0 (markCargoTank T0 1).1 (by omega)
  have hMO := markCargoOp_fst O0 (markCargoTank T0 1).1 (by omega) (by omega)
  have M1 := ev_markCargoTankS R1 1 (by omega)
  have M2 := ev_markIntS R2 (markCargoTank R1 1).1 (by omega)
  obtain ⟨hM1, hM2⟩ := mark_ends R1 R2 hR1 hR2
  have H1 := ev_heldCargoTankS R1 1 (by omega)
  have H2 := ev_heldIntS R2 (markCargoTank R1 1).1 (by omega)
  refine Ev.bind T (Ev.bind O (Ev.bind W (Ev.bind T (Ev.bind O (Ev.bind G (Ev.bind E1 (ev_ite_pos rfl (Ev.bind E2 ?_))))))))
  refine Ev.step (fun k => by rw [laws_FnExactCargoRun.j0]) ?_
  refine ev_ite_neg (by simp) (Ev.bind T (Ev.bind X1 (ev_ite_pos rfl (Ev.bind O (Ev.bind X2 (ev_ite_pos rfl (Ev.bind MT (Ev.bind MO (ev_ite_neg (by omega) (Ev.bind E1 (ev_ite_pos rfl (Ev.bind E2 ?_))))))))))))
  refine Ev.step (fun k => by rw [laws_FnExactCargoRun.j1]) ?_
  refine ev_ite_neg (by simp) (Ev.bind M1 (Ev.bind M2 (Ev.bind H1 (ev_ite_neg (by omega) (Ev.bind H2 (ev_ite_neg (by omega) (ev_ite_pos rfl (Ev.bind T (Ev.bind O (Ev.bind G (Ev.bind E1 (ev_ite_pos rfl (Ev.bind E2 ?_)))))))))))))
  refine Ev.step (fun k => by rw [laws_FnExactCargoRun.j2]) ?_
  exact ev_ite_neg (by simp) (Ev.bind H1 (ev_ite_neg (by omega) (Ev.bind H2 (ev_ite_neg (by omega) (ev_ite_pos rfl (Ev.now _))))))
end Go.Proofs.Ytmdennlkgakfnaa.Pure
