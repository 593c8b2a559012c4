/- For every input of the model that can be read, the law FnExactCargoRun returns true, and its arguments read behind the call as before. No condition. -/
import Derived.Test.YtmdennlkgakfnaaRows
import Derived.Test.YtmdennlkgakfnaaCL2a
import Derived.Test.YtmdennlkgakfnaaPureC
import Derived.Test.YtmdennlkgakfnaaO
import Derived.WalkKit
import Derived.ProofKit
import Derived.OpenShut
import Derived.ShutString
import Derived.ChangeOld
import Derived.Below
import Derived.SizedLaws
namespace Go.Proofs.Ytmdennlkgakfnaa.fnExactCargoRun
open Go.ChangeShapes Go.WideShapes Go.ChangeAt Go.RowKit Go.Proofs.YtmdennlkgakfnaaO Go.Proofs.Ytmdennlkgakfnaa.C Go.Proofs.YtmdennlkgakfnaaW.PrintWords
open Go.ChangeMaps (open_string shut_string)
set_option linter.unusedVariables false
theorem own : ownKnob Try.prog.godebug = none := by kernel_rfl
theorem laidOut : laidOutB Try.prog = true := by kernel_rfl
theorem opn0 : Op1 Try.prog 47 (Kd.slice 118 k118) := op_slice Try.underlying47 (by kernel_rfl) (op_iso (op_struct (ts := [3, 3, 3, 3, 3]) Try.underlying118 rfl (by kernel_rfl) (by kernel_rfl) (opf_cons (op_int Try.underlying3) (opf_cons (op_int Try.underlying3) (opf_cons (op_int Try.underlying3) (opf_cons (op_int Try.underlying3) (opf_one (op_int Try.underlying3))))))) _ (fun y => ⟨y.1, y.2.1, y.2.2.1, y.2.2.2.1, y.2.2.2.2⟩) (fun _ => rfl))
theorem opn1 : Op1 Try.prog 48 (Kd.slice 120 k120) := op_slice Try.underlying48 (by kernel_rfl) (op_iso (op_struct (ts := [3, 3, 3, 3]) Try.underlying120 rfl (by kernel_rfl) (by kernel_rfl) (opf_cons (op_int Try.underlying3) (opf_cons (op_int Try.underlying3) (opf_cons (op_int Try.underlying3) (opf_one (op_int Try.underlying3)))))) _ (fun y => ⟨y.1, y.2.1, y.2.2.1, y.2.2.2⟩) (fun _ => rfl))
set_option maxRecDepth 100000 in
theorem lifted (os : Os) (started : os.Started) (H : Type) (enc : TypeId × Value → H) :
    ReturnsInHanded {} Try.checked os 5 .any (Rows.fnExactCargoRunSpec.pre6 enc Try.prog Try.f5 Rows.fnExactCargoRunRow.domain false) (Rows.fnExactCargoRunSpec.post enc Try.prog Try.f5 false true false false) := by
  refine returnsInHanded_of_change_sized (C := Try.checked) own started (by kernel_rfl) Try.func5
    (ChangeSpec.witness6 (enc := enc) (C := Try.checked) false ⟨#[], #[.slice none 0 0, .slice none 0 0, .int .i64 0], []⟩ 8 (by kernel_rfl) (by kernel_rfl) (by kernel_rfl) (by kernel_rfl)) ?_
  intro W base args ds gs before hval0 hW hcnd hsz0 _
  have hval : ∀ (j : Nat) t v, Try.f5.params[j]? = some t → args[j]? = some v → Value.okWide Try.prog W .any base t v := hval0
  have hW' := hW
  obtain ⟨p, q, hA0, hV, rfl, hfz, hnd⟩ := hW
  have hA : DataW.TrodAll enc Try.prog W 0 (fun _ => true) true Try.f5.params.toList args.toList ds p := hA0
  rw [Try.params5] at hA hval
  obtain ⟨v0, vs0, d0, ds0, p0, q0, hargs, rfl, rfl, h0, r0⟩ := trodAll_cons hA
  obtain ⟨v1, vs1, d1, ds1, p1, q1, rfl, rfl, rfl, h1, r1⟩ := trodAll_cons r0
  obtain ⟨v2, vs2, d2, ds2, p2, q2, rfl, rfl, rfl, h2, r2⟩ := trodAll_cons r1
  obtain ⟨rfl, rfl, rfl⟩ := trodAll_nil r2
  obtain rfl : args = #[v0, v1, v2] := by cases args; simp_all
  obtain ⟨rfl, rfl⟩ := trodVars_none hV
  obtain ⟨a0, len0, cap0, rfl⟩ := okWide_slice Try.underlying47 (hval 0 47 v0 rfl rfl)
  have k0 := h0
  have lt0 : ∀ x ∈ p0, x.block < W.heap.size := by obtain ⟨m, hm⟩ := k0; exact DataW.trod_lt m _ _ _ hm
  obtain ⟨l0, hn0, hc0, hr0⟩ := op_param opn0 h0
  subst hn0
  obtain ⟨a1, len1, cap1, rfl⟩ := okWide_slice Try.underlying48 (hval 1 48 v1 rfl rfl)
  have k1 := h1
  have lt1 : ∀ x ∈ p1, x.block < W.heap.size := by obtain ⟨m, hm⟩ := k1; exact DataW.trod_lt m _ _ _ hm
  obtain ⟨l1, hn1, hc1, hr1⟩ := op_param opn1 h1
  subst hn1
  obtain ⟨a2, rfl, rfl, rfl, w2⟩ := open_int Try.underlying3 (hval 2 3 v2 rfl rfl) h2
  clear hA0 hval0 hsz0
  obtain ⟨k, hk⟩ := Pure.FnExactCargoRun l0 hr0.2.1 l1 hr1.2.1 a2
  refine (laws_FnExactCargoRun.calls k a0 cap0 l0 a1 cap1 l1 a2 true W hr0 hc0 hr1 hc1 hk).mono fun e W' ⟨he, bel⟩ => ?_
  subst he
  exact ⟨_, rfl, _, _, _, [], _, [], hW', trodAll_mk1 (shut_bool Try.underlying4 _), (trodAll_cons_mk (Below.trod laidOut (by kernel_rfl) (of_decide_eq_true (by kernel_rfl)) k0 bel lt0) (trodAll_cons_mk (Below.trod laidOut (by kernel_rfl) (of_decide_eq_true (by kernel_rfl)) k1 bel lt1) (trodAll_cons_mk (shut_int Try.underlying3 w2) trodAll_mk0))), rfl, bel.frame _, fun h => by cases h⟩
theorem over : Rows.fnExactCargoRunRow.holds Try.pinned (OpenSpec.ofChange Rows.fnExactCargoRunSpec) :=
  OpenClaim.holds_of_wide 5 Try.f5 rfl rfl rfl rfl rfl rfl rfl ⟨rfl, rfl, rfl, rfl, rfl⟩ rfl rfl rfl rfl rfl (by kernel_rfl) Try.func5 (by kernel_rfl)
    (of_decide_eq_true (by kernel_rfl)) (by unfold Func.isWrapper; first | (rw [if_pos (by decide +kernel)]; kernel_rfl) | (rw [if_neg (by decide +kernel)]; exact ⟨rfl, rfl⟩))
    (fun os started H enc _ => lifted os started H enc)
theorem proved : Rows.FnExactCargoRunSaid := over
end Go.Proofs.Ytmdennlkgakfnaa.fnExactCargoRun
namespace Go.Proofs.Ytmdennlkgakfnaa
/-- The row, under a short name, for the claim. -/
theorem fnExactCargoRun_holds : Rows.FnExactCargoRunSaid := fnExactCargoRun.proved
#print axioms fnExactCargoRun_holds
end Go.Proofs.Ytmdennlkgakfnaa

