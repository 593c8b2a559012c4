import Derived.Test.YtmdennlkgakfnaaGS
import Derived.BigRegion
import Derived.Lib.ItoaWalk
import Derived.Deep.RegionWith
import Derived.Deep.RegionHeld3
import Derived.Deep.Light
import Derived.Deep.CutBlock
namespace Go.Proofs.Ytmdennlkgakfnaa.C
open Go.RowKit Go.Proofs.YtmdennlkgakfnaaW.PrintWords Go.Proofs.YtmdennlkgakfnaaW.PrintLast Go.Proofs.YtmdennlkgakfnaaW.PrintMore
set_option linter.unusedVariables false
set_option linter.unusedSimpArgs false

set_option maxHeartbeats 8000000 in
set_option maxRecDepth 100000 in
theorem spec_CargoStep.calls0 (A0 : Option Addr) (c0 : Nat) (l0 : List S116) (K A B M lean : Int) (r1 : List S116) (r2 : Int) (w : World) (hkm : ¬ (1 ≤ K ∧ K ≤ 5)) (hr0 : Kd.C k116 w A0 l0.length l0) (hc0 : l0.length ≤ c0) (h : spec_CargoStep.f l0 K A B M lean = some (r1, r2)) :
    Calls Try.prog 82 #[.slice A0 l0.length c0, .agg #[.int .i64 K, .int .i64 A, .int .i64 B, .int .i64 M], .int .i64 lean] w fun e w' => ∃ v0_ : Value, e = .returned (.tuple #[v0_, .int .i64 r2]) ∧ Kd.R k116 116 w' w.heap.size (fun _ => True) v0_ r1 ∧ Below w.heap.size w w' := by
  unfold spec_CargoStep.f at h
  have hl : l0.length ≤ 1099511627776 := by
    by_cases hl : l0.length ≤ 1099511627776
    · exact hl
    · rw [if_neg hl] at h; cases h
  rw [if_pos hl] at h
  have H := Aside0.mk h
  clear h
  have HR0 := Aside0.mk hr0
  have HC0 := Aside0.mk hc0
  have HL0 := Aside0.mk hl
  have HKM := Aside0.mk hkm
  clear hkm
  have hlen : (l0.length : Int) ≤ 1099511627776 := by omega
  have hu114 := Try.underlying114
  have hu116 := Try.underlying116
  clear hr0 hc0 hl
  go_enter Try.func82, Try.ntmps82
  go_upto_region 2 with (first | ((with_reducible refine gate_dst (N := 16) rfl ?_); refine Kd.R_lit k116 _ 116 ?hg (N := 16) ?hd (xs := []) (inner := []) (ok := fun _ => True) (okp := fun _ => True) ?hr ?hp (fun _ hk => hk) trivial (Below.refl _ _) (Nat.le_refl _) (by simp) ?_; (case hd => rfl); (case hg => rfl); (case hr => first | (go_simp; done) | (go_simp; rfl)); (case hp => exact (Reps.none _ _)); intro v1 w1 ho hb hg_ hn_; clear hg_ hn_; have HO := Aside0.mk ho; have HB := Aside0.mk hb; clear ho hb) | ((with_reducible refine gate_builtin (b := .append) (xs := #[.tmp 16, .tmp 17]) rfl ?_); at_builtin; refine Kd.R_append_rows k116 (w0 := (w.alloc (.cells #[.int .i64 K, .int .i64 A, .int .i64 B, .int .i64 M] 114))) _ rfl (.tmp 16) (.tmp 17) 51 116 (.agg #[(.int .i64 0), (.int .i64 0), (.int .i64 0), (.int .i64 0), (.int .i64 0)]) 40 rfl Try.underlying51 info116 rfl (by decide) (by omega) v1 [] l0 A0 l0.length c0 (fun _ => True) (fun _ => False) rfl rfl HO.out (Kd.C_below HR0.out (below_step (below_alloc (Below.refl _ _) _) HB.out)) (fun _ _ h => h) (fun _ h => h.elim) (fun _ _ => trivial) HB.out (below_size HB.out) (by have := HL0.out; simp only [List.length_nil]; omega) ?_; intro v2 w2 ho2 hb2 hg2 hat2; have ST : Aside0 (St0 w K A B M v2 l0 w2) := ⟨⟨blk_below (blk_new _ _) hb2, Kd.R_lower ho2 (by simp), below_step (below_alloc (Below.refl _ _) _) hb2⟩⟩; clear ho2 hb2 hg2 hat2))
  go_cut [32] from 19 to 31 (fun v32 wc => v32 = .bool (sBad l0 K A B M lean) ∧ Aside0 (St0 w K A B M v2 l0 wc))
  case first =>
    obtain ⟨hx0, hx1, hx2, hx3⟩ := ST.out.cells
    have L (b : Bool) : b = true ∨ b = false := by cases b <;> simp
    rcases L (tanksB l0) with hT | hT
    · rcases L (opB l0 K A B M) with h1 | h1
      · rcases L (inB lean 0 100000000) with h2 | h2
        · as_aux_lemma => (go_wp2_with (first | (go_at_call 122; refine (stanks_calls A0 c0 l0 _ (Kd.C_below HR0.out ST.out.below) HC0.out (by have := HL0.out; omega)).mono ?_; rintro e w3 ⟨rfl, hb⟩; have ST2 : Aside0 (St0 w K A B M v2 l0 w3) := ⟨ST.out.step hb⟩; clear hb; obtain ⟨hx0, hx1, hx2, hx3⟩ := ST2.out.cells) | (go_at_call 123; refine (sop_calls A0 c0 l0 K A B M _ (Kd.C_below HR0.out ST2.out.below) HC0.out (by have := HL0.out; omega)).mono ?_; rintro e w4 ⟨rfl, hb⟩; have ST3 : Aside0 (St0 w K A B M v2 l0 w4) := ⟨ST2.out.step hb⟩; clear hb) | (go_at_call 110; refine (sin_calls _ _ _ _).mono ?_; rintro e w5 ⟨rfl, n5, rfl⟩)); go_meet; case rel => go_light; exact ⟨by simp [sBad, *], ⟨by repeat (first | exact ST3.out | refine St0.drewN ?_ _)⟩⟩)
        · as_aux_lemma => (go_wp2_with (first | (go_at_call 122; refine (stanks_calls A0 c0 l0 _ (Kd.C_below HR0.out ST.out.below) HC0.out (by have := HL0.out; omega)).mono ?_; rintro e w3 ⟨rfl, hb⟩; have ST2 : Aside0 (St0 w K A B M v2 l0 w3) := ⟨ST.out.step hb⟩; clear hb; obtain ⟨hx0, hx1, hx2, hx3⟩ := ST2.out.cells) | (go_at_call 123; refine (sop_calls A0 c0 l0 K A B M _ (Kd.C_below HR0.out ST2.out.below) HC0.out (by have := HL0.out; omega)).mono ?_; rintro e w4 ⟨rfl, hb⟩; have ST3 : Aside0 (St0 w K A B M v2 l0 w4) := ⟨ST2.out.step hb⟩; clear hb) | (go_at_call 110; refine (sin_calls _ _ _ _).mono ?_; rintro e w5 ⟨rfl, n5, rfl⟩)); go_meet; case rel => go_light; exact ⟨by simp [sBad, *], ⟨by repeat (first | exact ST3.out | refine St0.drewN ?_ _)⟩⟩)
      · as_aux_lemma => (go_wp2_with (first | (go_at_call 122; refine (stanks_calls A0 c0 l0 _ (Kd.C_below HR0.out ST.out.below) HC0.out (by have := HL0.out; omega)).mono ?_; rintro e w3 ⟨rfl, hb⟩; have ST2 : Aside0 (St0 w K A B M v2 l0 w3) := ⟨ST.out.step hb⟩; clear hb; obtain ⟨hx0, hx1, hx2, hx3⟩ := ST2.out.cells) | (go_at_call 123; refine (sop_calls A0 c0 l0 K A B M _ (Kd.C_below HR0.out ST2.out.below) HC0.out (by have := HL0.out; omega)).mono ?_; rintro e w4 ⟨rfl, hb⟩; have ST3 : Aside0 (St0 w K A B M v2 l0 w4) := ⟨ST2.out.step hb⟩; clear hb) | (go_at_call 110; refine (sin_calls _ _ _ _).mono ?_; rintro e w5 ⟨rfl, n5, rfl⟩)); go_meet; case rel => go_light; exact ⟨by simp [sBad, *], ⟨by repeat (first | exact ST3.out | refine St0.drewN ?_ _)⟩⟩)
    · as_aux_lemma => (go_wp2_with (first | (go_at_call 122; refine (stanks_calls A0 c0 l0 _ (Kd.C_below HR0.out ST.out.below) HC0.out (by have := HL0.out; omega)).mono ?_; rintro e w3 ⟨rfl, hb⟩; have ST2 : Aside0 (St0 w K A B M v2 l0 w3) := ⟨ST.out.step hb⟩; clear hb; obtain ⟨hx0, hx1, hx2, hx3⟩ := ST2.out.cells) | (go_at_call 123; refine (sop_calls A0 c0 l0 K A B M _ (Kd.C_below HR0.out ST2.out.below) HC0.out (by have := HL0.out; omega)).mono ?_; rintro e w4 ⟨rfl, hb⟩; have ST3 : Aside0 (St0 w K A B M v2 l0 w4) := ⟨ST2.out.step hb⟩; clear hb) | (go_at_call 110; refine (sin_calls _ _ _ _).mono ?_; rintro e w5 ⟨rfl, n5, rfl⟩)); go_meet; case rel => go_light; exact ⟨by simp [sBad, *], ⟨by repeat (first | exact ST2.out | refine St0.drewN ?_ _)⟩⟩)
  case rest => as_aux_lemma =>
    obtain ⟨rfl, ST1⟩ := hcut
    clear ST HO HB
    cases hb : sBad l0 K A B M lean
    · have HN := H.out
      exact absurd (show 1 ≤ K ∧ K ≤ 5 from by have h := hb; simp only [sBad, opB, Bool.or_eq_false_iff, Bool.not_eq_false', Bool.and_eq_true] at h; simpa [inB] using h.1.2.1.1) HKM.out
    · have HN := H.out
      rw [if_pos hb] at HN
      obtain ⟨rfl, rfl⟩ : l0 = r1 ∧ 1 = r2 := by simpa using HN
      clear HN
      go_wp2
      go_ret2
      exact ⟨v2, rfl, Kd.R_lower ST1.out.was (by omega), ST1.out.below⟩
end Go.Proofs.Ytmdennlkgakfnaa.C
