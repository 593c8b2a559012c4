import Derived.Test.YtmdennlkgakfnaaGS
import Derived.BigRegion
import Derived.Lib.ItoaWalk
import Derived.Deep.RegionWith
import Derived.Deep.RegionHeld3
import Derived.Deep.Light
import Derived.Deep.CutBlock
namespace Go.Proofs.Ytmdennlkgakfnaa.C
open Go.RowKit Go.Proofs.YtmdennlkgakfnaaW.PrintWords Go.Proofs.YtmdennlkgakfnaaW.PrintLast Go.Proofs.YtmdennlkgakfnaaW.PrintMore
set_option linter.unusedVariables false
set_option linter.unusedSimpArgs false

set_option maxHeartbeats 8000000 in
set_option maxRecDepth 100000 in
theorem spec_CargoStep.calls3 (A0 : Option Addr) (c0 : Nat) (l0 : List S116) (K A B M lean : Int) (r1 : List S116) (r2 : Int) (w : World) (hkm : K = 3) (hr0 : Kd.C k116 w A0 l0.length l0) (hc0 : l0.length ≤ c0) (h : spec_CargoStep.f l0 K A B M lean = some (r1, r2)) :
    Calls Try.prog 82 #[.slice A0 l0.length c0, .agg #[.int .i64 K, .int .i64 A, .int .i64 B, .int .i64 M], .int .i64 lean] w fun e w' => ∃ v0_ : Value, e = .returned (.tuple #[v0_, .int .i64 r2]) ∧ Kd.R k116 116 w' w.heap.size (fun _ => True) v0_ r1 ∧ Below w.heap.size w w' := by
  unfold spec_CargoStep.f at h
  have hl : l0.length ≤ 1099511627776 := by
    by_cases hl : l0.length ≤ 1099511627776
    · exact hl
    · rw [if_neg hl] at h; cases h
  rw [if_pos hl] at h
  have H := Aside0.mk h
  clear h
  have HR0 := Aside0.mk hr0
  have HC0 := Aside0.mk hc0
  have HL0 := Aside0.mk hl
  have HKM := Aside0.mk hkm
  clear hkm
  have hlen : (l0.length : Int) ≤ 1099511627776 := by omega
  have hu114 := Try.underlying114
  have hu116 := Try.underlying116
  clear hr0 hc0 hl
  go_enter Try.func82, Try.ntmps82
  go_upto_region 2 with (first | ((with_reducible refine gate_dst (N := 16) rfl ?_); refine Kd.R_lit k116 _ 116 ?hg (N := 16) ?hd (xs := []) (inner := []) (ok := fun _ => True) (okp := fun _ => True) ?hr ?hp (fun _ hk => hk) trivial (Below.refl _ _) (Nat.le_refl _) (by simp) ?_; (case hd => rfl); (case hg => rfl); (case hr => first | (go_simp; done) | (go_simp; rfl)); (case hp => exact (Reps.none _ _)); intro v1 w1 ho hb hg_ hn_; clear hg_ hn_; have HO := Aside0.mk ho; have HB := Aside0.mk hb; clear ho hb) | ((with_reducible refine gate_builtin (b := .append) (xs := #[.tmp 16, .tmp 17]) rfl ?_); at_builtin; refine Kd.R_append_rows k116 (w0 := (w.alloc (.cells #[.int .i64 K, .int .i64 A, .int .i64 B, .int .i64 M] 114))) _ rfl (.tmp 16) (.tmp 17) 51 116 (.agg #[(.int .i64 0), (.int .i64 0), (.int .i64 0), (.int .i64 0), (.int .i64 0)]) 40 rfl Try.underlying51 info116 rfl (by decide) (by omega) v1 [] l0 A0 l0.length c0 (fun _ => True) (fun _ => False) rfl rfl HO.out (Kd.C_below HR0.out (below_step (below_alloc (Below.refl _ _) _) HB.out)) (fun _ _ h => h) (fun _ h => h.elim) (fun _ _ => trivial) HB.out (below_size HB.out) (by have := HL0.out; simp only [List.length_nil]; omega) ?_; intro v2 w2 ho2 hb2 hg2 hat2; have ST : Aside0 (St0 w K A B M v2 l0 w2) := ⟨⟨blk_below (blk_new _ _) hb2, Kd.R_lower ho2 (by simp), below_step (below_alloc (Below.refl _ _) _) hb2⟩⟩; clear ho2 hb2 hg2 hat2))
  go_cut [32] from 19 to 31 (fun v32 wc => v32 = .bool (sBad l0 K A B M lean) ∧ Aside0 (St0 w K A B M v2 l0 wc))
  case first =>
    obtain ⟨hx0, hx1, hx2, hx3⟩ := ST.out.cells
    have L (b : Bool) : b = true ∨ b = false := by cases b <;> simp
    rcases L (tanksB l0) with hT | hT
    · rcases L (opB l0 K A B M) with h1 | h1
      · rcases L (inB lean 0 100000000) with h2 | h2
        · as_aux_lemma => (go_wp2_with (first | (go_at_call 122; refine (stanks_calls A0 c0 l0 _ (Kd.C_below HR0.out ST.out.below) HC0.out (by have := HL0.out; omega)).mono ?_; rintro e w3 ⟨rfl, hb⟩; have ST2 : Aside0 (St0 w K A B M v2 l0 w3) := ⟨ST.out.step hb⟩; clear hb; obtain ⟨hx0, hx1, hx2, hx3⟩ := ST2.out.cells) | (go_at_call 123; refine (sop_calls A0 c0 l0 K A B M _ (Kd.C_below HR0.out ST2.out.below) HC0.out (by have := HL0.out; omega)).mono ?_; rintro e w4 ⟨rfl, hb⟩; have ST3 : Aside0 (St0 w K A B M v2 l0 w4) := ⟨ST2.out.step hb⟩; clear hb) | (go_at_call 110; refine (sin_calls _ _ _ _).mono ?_; rintro e w5 ⟨rfl, n5, rfl⟩)); go_meet; case rel => go_light; exact ⟨by simp [sBad, *], ⟨by repeat (first | exact ST3.out | refine St0.drewN ?_ _)⟩⟩)
        · as_aux_lemma => (go_wp2_with (first | (go_at_call 122; refine (stanks_calls A0 c0 l0 _ (Kd.C_below HR0.out ST.out.below) HC0.out (by have := HL0.out; omega)).mono ?_; rintro e w3 ⟨rfl, hb⟩; have ST2 : Aside0 (St0 w K A B M v2 l0 w3) := ⟨ST.out.step hb⟩; clear hb; obtain ⟨hx0, hx1, hx2, hx3⟩ := ST2.out.cells) | (go_at_call 123; refine (sop_calls A0 c0 l0 K A B M _ (Kd.C_below HR0.out ST2.out.below) HC0.out (by have := HL0.out; omega)).mono ?_; rintro e w4 ⟨rfl, hb⟩; have ST3 : Aside0 (St0 w K A B M v2 l0 w4) := ⟨ST2.out.step hb⟩; clear hb) | (go_at_call 110; refine (sin_calls _ _ _ _).mono ?_; rintro e w5 ⟨rfl, n5, rfl⟩)); go_meet; case rel => go_light; exact ⟨by simp [sBad, *], ⟨by repeat (first | exact ST3.out | refine St0.drewN ?_ _)⟩⟩)
      · as_aux_lemma => (go_wp2_with (first | (go_at_call 122; refine (stanks_calls A0 c0 l0 _ (Kd.C_below HR0.out ST.out.below) HC0.out (by have := HL0.out; omega)).mono ?_; rintro e w3 ⟨rfl, hb⟩; have ST2 : Aside0 (St0 w K A B M v2 l0 w3) := ⟨ST.out.step hb⟩; clear hb; obtain ⟨hx0, hx1, hx2, hx3⟩ := ST2.out.cells) | (go_at_call 123; refine (sop_calls A0 c0 l0 K A B M _ (Kd.C_below HR0.out ST2.out.below) HC0.out (by have := HL0.out; omega)).mono ?_; rintro e w4 ⟨rfl, hb⟩; have ST3 : Aside0 (St0 w K A B M v2 l0 w4) := ⟨ST2.out.step hb⟩; clear hb) | (go_at_call 110; refine (sin_calls _ _ _ _).mono ?_; rintro e w5 ⟨rfl, n5, rfl⟩)); go_meet; case rel => go_light; exact ⟨by simp [sBad, *], ⟨by repeat (first | exact ST3.out | refine St0.drewN ?_ _)⟩⟩)
    · as_aux_lemma => (go_wp2_with (first | (go_at_call 122; refine (stanks_calls A0 c0 l0 _ (Kd.C_below HR0.out ST.out.below) HC0.out (by have := HL0.out; omega)).mono ?_; rintro e w3 ⟨rfl, hb⟩; have ST2 : Aside0 (St0 w K A B M v2 l0 w3) := ⟨ST.out.step hb⟩; clear hb; obtain ⟨hx0, hx1, hx2, hx3⟩ := ST2.out.cells) | (go_at_call 123; refine (sop_calls A0 c0 l0 K A B M _ (Kd.C_below HR0.out ST2.out.below) HC0.out (by have := HL0.out; omega)).mono ?_; rintro e w4 ⟨rfl, hb⟩; have ST3 : Aside0 (St0 w K A B M v2 l0 w4) := ⟨ST2.out.step hb⟩; clear hb) | (go_at_call 110; refine (sin_calls _ _ _ _).mono ?_; rintro e w5 ⟨rfl, n5, rfl⟩)); go_meet; case rel => go_light; exact ⟨by simp [sBad, *], ⟨by repeat (first | exact ST2.out | refine St0.drewN ?_ _)⟩⟩)
  case rest => as_aux_lemma =>
    obtain ⟨rfl, ST1⟩ := hcut
    clear ST HO HB
    cases hb : sBad l0 K A B M lean
    · have HN := H.out
      rw [if_neg (by rw [hb]; simp)] at HN
      have h := hb
      simp only [sBad, opB, Bool.or_eq_false_iff, Bool.not_eq_false', Bool.and_eq_true] at h
      obtain ⟨⟨hT, ⟨h1, h2⟩, h3⟩, h4⟩ := h
      have hA : 0 ≤ A ∧ A < (l0.length : Int) := by simp only [inB, decide_eq_true_eq] at h2; omega
      obtain ⟨hA0, hA1⟩ := hA
      have HB5 : Aside0 (1 ≤ K ∧ K ≤ 5) := ⟨by simpa [inB] using h1⟩
      have HB4 : Aside0 (K = 3 → 0 ≤ B ∧ B < (l0.length : Int) ∧ ¬ B = A) := ⟨fun hk => by
        have h4' := h3
        rw [if_neg (by omega)] at h4'
        simp only [hk, beq_self_eq_true, Bool.not_true, Bool.false_or, Bool.and_eq_true, inB, decide_eq_true_eq, bne_iff_ne] at h4'
        omega⟩
      have HN1 := Aside0.mk HN
      clear HN hT h1 h2 h3 h4 H
      go_upto_region 5 with (first | ((with_reducible refine gate_dst (N := 34) rfl ?_); refine Kd.R_lit k116 _ 116 ?hg (N := 34) ?hd (xs := []) (inner := []) (ok := fun _ => True) (okp := fun _ => True) ?hr ?hp (fun _ hk => hk) trivial (Below.refl _ _) (Nat.le_refl _) (by simp) ?_; (case hd => rfl); (case hg => rfl); (case hr => first | (go_simp; done) | (go_simp; rfl)); (case hp => exact (Reps.none _ _)); intro v3 w6 ho hb hg_ hn_; have HO := Aside0.mk ho; have HB := Aside0.mk hb; clear ho hb hg_ hn_) | ((with_reducible refine gate_builtin (b := .append) (xs := #[.tmp 34, .tmp 35]) rfl ?_); at_builtin; refine Kd.R_append_rows k116 _ rfl (.tmp 34) (.tmp 35) 51 116 (.agg #[(.int .i64 0), (.int .i64 0), (.int .i64 0), (.int .i64 0), (.int .i64 0)]) 40 rfl Try.underlying51 info116 rfl (by decide) (by omega) v3 [] l0 A0 l0.length c0 (fun _ => True) (fun _ => False) rfl rfl HO.out (Kd.C_below HR0.out (below_step ST1.out.below HB.out)) (fun _ _ h => h) (fun _ h => h.elim) (fun _ _ => trivial) HB.out (below_size HB.out) (by have := HL0.out; simp only [List.length_nil]; omega) ?_; intro v4 w7 ho2 hb2 hg2 hat2; have HW : Aside0 (∀ g, _ ≤ g → Kd.R k116 116 w7 (w.heap.size + 1) (fun k => k ≠ g) v2 l0) := ⟨fun g hg => Kd.R_mono (Kd.R_below (Kd.R_elderB ST1.out.was g hg) hb2) (fun k hk => hk.2)⟩; have ST2 : Aside0 (St0 w K A B M v2 l0 w7) := ⟨ST1.out.step hb2⟩; have HO2 : Aside0 (Kd.R k116 116 w7 _ (fun _ => True) v4 l0) := Aside0.mk ho2; have HGE := Aside0.mk (blk_lt ST1.out.box); clear ho2 hb2 hg2 hat2))
      obtain ⟨g, cap, e4, hge, -, -, -⟩ := Kd.R_form HO2.out (by omega)
      subst e4
      have ST : Aside0 (St1 w K A B M v2 l0 g l0.length cap w7 l0) := ⟨⟨ST2.out.box, HW.out g hge, Kd.R_lower HO2.out HGE.out, ST2.out.below, Nat.le_trans HGE.out hge⟩⟩
      clear HO HO2 HW ST2 HGE hge HB ST1
      have hne1 := eq_false ST.out.ne
      have hne2 := eq_false (Ne.symm ST.out.ne)
      obtain ⟨hx0, hx1, hx2, hx3⟩ := ST.out.cells
      go_upto_region 6 with (first | ((with_reducible refine gate_dst (N := 39) rfl ?_); refine Kd.R_lit (Kd.int .i64) _ 3 ?hg (N := 39) ?hd (xs := [A]) (inner := [.int .i64 A]) (ok := fun _ => True) (okp := fun _ => True) ?hr ?hp (fun _ hk => hk) trivial (Below.refl _ _) (Nat.le_refl _) (by simp) ?_; (case hd => rfl); (case hg => rfl); (case hr => first | (go_simp; done) | (go_simp; rfl)); (case hp => exact (Reps.one (show Kd.M (Kd.int .i64) _ _ _ A [.int .i64 A] from rfl) (Reps.none _ _))); intro v8 w8 ho hb hg_ hn_; have HM := Aside0.mk (Kd.R_lower ho (Nat.le_trans ST.out.ge (Nat.le_of_lt ST.out.lt))); have HMg : Aside0 (∀ k, v8.ownBlock = some k → k ≠ g) := ⟨fun k hk e => by have h1 := Kd.R_base ho k hk; have h2 := ST.out.lt; omega⟩; have ST8 : Aside0 (St1 w K A B M v2 l0 g l0.length cap w8 l0) := ⟨ST.out.step hb⟩; clear ho hb hg_ hn_))
      clear hx0 hx1 hx2 hx3 ST
      have ST := ST8
      clear ST8
      obtain ⟨hx0, hx1, hx2, hx3⟩ := ST.out.cells
      go_upto_block 0 with (fail)
      clear hx0 hx1 hx2 hx3
      go_cut [10] from 42 to 150 (fun v10 wc => Aside0 (St1 w K A B M v2 l0 g l0.length cap wc (sChanged l0 K A B M)) ∧ Aside0 (Kd.R (Kd.int .i64) 3 wc (w.heap.size + 1) (fun _ => True) v10 (sNamed K A B)))
      case first =>
        have hK := HKM.out
        rcases hK with rfl
        · as_aux_lemma =>
          obtain ⟨hB0, hB1, hBA⟩ := HB4.out rfl
          have HZ : Aside0 (wrap64 ((rd_T116 l0 A).f0 - M) ≥ 0 → ¬ wrap64 ((rd_T116 l0 A).f1 - wrap64 ((rd_T116 l0 A).f0 - M)) = 0) := ⟨fun h1 h2 => by have h := HN1.out; rw [if_pos ⟨by simp, h1, h2⟩] at h; cases h⟩
          obtain ⟨y_, hy_⟩ : ∃ y : S116, y = sOutT (rd_T116 l0 A) M := ⟨_, rfl⟩
          have HY := Aside0.mk hy_
          clear hy_
          go_upto_region 16 with (fail)
          go_cut [] from 122 to 133 (fun wc => Aside0 (St1 w 3 A B M v2 l0 g l0.length cap wc ((l0).set A.toNat y_)) ∧ Aside0 (Kd.R (Kd.int .i64) 3 wc (w.heap.size + 1) (fun _ => True) v8 [A]))
          case first =>
            obtain ⟨hx0, hx1, hx2, hx3⟩ := ST.out.cells
            obtain ⟨hy0, hy1, hy2, hy3, hy4, hfy⟩ := R_at116 ST.out.row A hA0 hA1
            have hfy0 := hfy 0
            have hfy1 := hfy 1
            have hfy2 := hfy 2
            have hfy3 := hfy 3
            have hfy4 := hfy 4
            simp only [Nat.add_zero] at hfy0
            clear hfy
            go_region_with (go_at_call 125; refine (sout13_y (rd_T116 (l0) A) y_ M _ HY.out HZ.out).mono ?_; rintro e w9 ⟨rfl, hb9⟩; have ST9 : Aside0 (St1 w 3 A B M v2 l0 g l0.length cap w9 (l0)) := ⟨(by repeat (first | with_reducible exact ST.out | with_reducible refine St1.drewN ?_ _ | with_reducible refine St1.drew ?_) : St1 w 3 A B M v2 l0 g l0.length cap _ (l0)).step hb9⟩; have NM9 : Aside0 (Kd.R (Kd.int .i64) 3 w9 (w.heap.size + 1) (fun _ => True) v8 [A]) := ⟨Kd.R_below (by repeat (first | with_reducible exact HM.out | with_reducible refine Kd.R_drewN ?_ _ | with_reducible refine Kd.R_drew ?_)) hb9⟩; clear hb9; obtain ⟨hx0, hx1, hx2, hx3⟩ := ST9.out.cells; obtain ⟨hy0, hy1, hy2, hy3, hy4, hfy⟩ := R_at116 ST9.out.row A hA0 hA1; have hfy0 := hfy 0; have hfy1 := hfy 1; have hfy2 := hfy 2; have hfy3 := hfy 3; have hfy4 := hfy 4; simp only [Nat.add_zero] at hfy0; clear hfy)
            all_goals (go_wp2; go_meet; case rel => go_light; exact ⟨⟨by repeat (first | with_reducible exact ST9.out.store A hA0 hA1 y_ | with_reducible refine St1.drewN ?_ _ | with_reducible refine St1.drew ?_)⟩, ⟨by repeat (first | with_reducible exact NM9.out | with_reducible refine Kd.R_drewN ?_ _ | with_reducible refine Kd.R_drew ?_ | with_reducible refine R_set3 ?_ HMg.out _ _)⟩⟩)
          case rest =>
            obtain ⟨HS1, HM1⟩ := hcut
            rw [HY.out] at HS1
            clear HY
            obtain ⟨y_, hy_⟩ : ∃ y : S116, y = fillT (rd_T116 (l0.set A.toNat (sOutT (rd_T116 l0 A) M)) B) M := ⟨_, rfl⟩
            have HY := Aside0.mk hy_
            clear hy_
            go_upto_region 17 with (fail)
            go_cut [] from 134 to 145 (fun wc => Aside0 (St1 w 3 A B M v2 l0 g l0.length cap wc ((l0.set A.toNat (sOutT (rd_T116 l0 A) M)).set B.toNat y_)) ∧ Aside0 (Kd.R (Kd.int .i64) 3 wc (w.heap.size + 1) (fun _ => True) v8 [A]))
            case first =>
              obtain ⟨hx0, hx1, hx2, hx3⟩ := HS1.out.cells
              obtain ⟨hy0, hy1, hy2, hy3, hy4, hfy⟩ := R_at116 HS1.out.row B hB0 hB1
              have hfy0 := hfy 0
              have hfy1 := hfy 1
              have hfy2 := hfy 2
              have hfy3 := hfy 3
              have hfy4 := hfy 4
              simp only [Nat.add_zero] at hfy0
              clear hfy
              go_region_with (go_at_call 124; refine (sin13_y (rd_T116 (l0.set A.toNat (sOutT (rd_T116 l0 A) M)) B) y_ M _ HY.out).mono ?_; rintro e w9 ⟨rfl, hb9⟩; have ST9 : Aside0 (St1 w 3 A B M v2 l0 g l0.length cap w9 (l0.set A.toNat (sOutT (rd_T116 l0 A) M))) := ⟨(by repeat (first | with_reducible exact HS1.out | with_reducible refine St1.drewN ?_ _ | with_reducible refine St1.drew ?_) : St1 w 3 A B M v2 l0 g l0.length cap _ (l0.set A.toNat (sOutT (rd_T116 l0 A) M))).step hb9⟩; have NM9 : Aside0 (Kd.R (Kd.int .i64) 3 w9 (w.heap.size + 1) (fun _ => True) v8 [A]) := ⟨Kd.R_below (by repeat (first | with_reducible exact HM1.out | with_reducible refine Kd.R_drewN ?_ _ | with_reducible refine Kd.R_drew ?_)) hb9⟩; clear hb9; obtain ⟨hx0, hx1, hx2, hx3⟩ := ST9.out.cells; obtain ⟨hy0, hy1, hy2, hy3, hy4, hfy⟩ := R_at116 ST9.out.row B hB0 hB1; have hfy0 := hfy 0; have hfy1 := hfy 1; have hfy2 := hfy 2; have hfy3 := hfy 3; have hfy4 := hfy 4; simp only [Nat.add_zero] at hfy0; clear hfy)
              all_goals (go_wp2; go_meet; case rel => go_light; exact ⟨⟨by repeat (first | with_reducible exact ST9.out.store B hB0 hB1 y_ | with_reducible refine St1.drewN ?_ _ | with_reducible refine St1.drew ?_)⟩, ⟨by repeat (first | with_reducible exact NM9.out | with_reducible refine Kd.R_drewN ?_ _ | with_reducible refine Kd.R_drew ?_ | with_reducible refine R_set3 ?_ HMg.out _ _)⟩⟩)
            case rest =>
              obtain ⟨HS2, HM2⟩ := hcut
              rw [HY.out] at HS2
              clear HY
              obtain ⟨hx0, hx1, hx2, hx3⟩ := HS2.out.cells
              go_wp2_with (((with_reducible refine gate_builtin (b := .append) rfl ?_); at_builtin; refine Kd.R_append (Kd.int .i64) (w.heap.size + 1) rfl (.tmp 146) (.tmp 149) 52 3 (.int .i64 0) 8 rfl Try.underlying52 info3 rfl (by decide) (by omega) v8 [A] B [.int .i64 B] (fun _ => True) (fun _ => False) rfl rfl rfl (fun _ h => h.elim) (fun _ _ => trivial) HM2.out (Below.refl _ _) (Nat.le_trans HS2.out.ge (Nat.le_of_lt HS2.out.lt)) (by simp) ?_; intro v12 w12 ho hb hg hat; have HM3 := Aside0.mk ho; have HS3 : Aside0 (St1 w 3 A B M v2 l0 g l0.length cap w12 ((l0.set A.toNat (sOutT (rd_T116 l0 A) M)).set B.toNat (fillT (rd_T116 (l0.set A.toNat (sOutT (rd_T116 l0 A) M)) B) M))) := ⟨HS2.out.far hg HM2.out (Nat.le_refl _)⟩; clear ho hb hg hat))
              go_meet
              case rel => go_light; rw [show sChanged l0 3 A B M = (l0.set A.toNat (sOutT (rd_T116 l0 A) M)).set B.toNat (fillT (rd_T116 (l0.set A.toNat (sOutT (rd_T116 l0 A) M)) B) M) from by simp [sChanged], show sNamed 3 A B = [A, B] from rfl]; exact ⟨HS3, HM3⟩
      case rest => as_aux_lemma =>
        obtain ⟨HS, HM0⟩ := hcut
        have HN := HN1.out
        have hz : ¬ ((K = 2 ∨ K = 3) ∧ wrap64 ((rd_T116 l0 A).f0 - M) ≥ 0 ∧ wrap64 ((rd_T116 l0 A).f1 - wrap64 ((rd_T116 l0 A).f0 - M)) = 0) := fun hz => by rw [if_pos hz] at HN; cases HN
        rw [if_neg hz] at HN
        have hn0 : 0 < (sNamed K A B).length := by unfold sNamed; split <;> simp
        have hnb : ∀ j, j < (sNamed K A B).length → 0 ≤ (sNamed K A B).getD j 0 ∧ (sNamed K A B).getD j 0 < (l0.length : Int) := by
          intro j hj
          by_cases h3 : K = 3
          · obtain ⟨hB0, hB1, _⟩ := HB4.out h3
            simp only [sNamed, if_pos h3] at hj ⊢
            match j, hj with
            | 0, _ => exact ⟨hA0, hA1⟩
            | 1, _ => exact ⟨hB0, hB1⟩
            | j + 2, hj => exact absurd hj (by simp)
          · simp only [sNamed, if_neg h3] at hj ⊢
            match j, hj with
            | 0, _ => exact ⟨hA0, hA1⟩
            | j + 1, hj => exact absurd hj (by simp)
        have hnl : (sNamed K A B).length ≤ 2 := by unfold sNamed; split <;> simp
        generalize sChanged l0 K A B M = L at HS HN
        generalize sNamed K A B = N at HM0 HN hn0 hnb hnl
        obtain ⟨gn, capn, rfl, -, -, -⟩ := Kd.R_form HM0.out hn0
        have HN := Aside0.mk HN
        have HNB := Aside0.mk hnb
        clear hz hnb HN1 HB4 HB5 HM HMg ST
        go_wp2
        go_loopg [11, 12, 13, 14] N.length (fun gg v11 v12 v13 v14 wr => ∃ kk : Nat, kk ≤ N.length ∧ N.length - kk ≤ gg ∧ v14 = .int .i64 kk ∧ v11 = .bool (dryB L (N.take kk)) ∧ v12 = .bool (overB L (N.take kk)) ∧ v13 = .bool (burnsB L (N.take kk)) ∧ Aside0 (St1 w K A B M v2 l0 g l0.length cap wr L) ∧ Aside0 (Kd.R (Kd.int .i64) 3 wr (w.heap.size + 1) (fun _ => True) (.slice (some ⟨gn, 0, none⟩) N.length capn) N))
        case atStart => exact ⟨0, Nat.zero_le _, by omega, rfl, rfl, rfl, rfl, HS, HM0⟩
        case round =>
          clear HS HM0
          obtain ⟨kk, hkk, hg, rfl, rfl, rfl, rfl, HS, HM0⟩ := hrel
          by_cases hlt : kk < N.length
          · have hltz : (kk : Int) < (N.length : Int) := by omega
            have hkk0 : 0 ≤ (kk : Int) := by omega
            have hj := HNB.out kk hlt
            have hcn := (Kd.R_cell (0 : Int) HM0.out (kk : Int) hkk0 hltz).1
            simp only [Int.toNat_natCast] at hcn
            have ej : rdOf (0 : Int) N (kk : Int) = N.getD kk 0 := by simp [rdOf]
            rw [ej] at hcn
            have hds := dryB_step L N kk hlt
            have hos := overB_step L N kk hlt
            have hbs := burnsB_step L N kk hlt
            generalize N.getD kk 0 = jj at hj hcn hds hos hbs
            obtain ⟨hj0, hj1⟩ := hj
            obtain ⟨hy0, hy1, hy2, hy3, hy4, hfy⟩ := R_at116 HS.out.row jj hj0 hj1
            clear hfy ej
            have HDS := Aside0.mk hds
            have HOS := Aside0.mk hos
            have HBS := Aside0.mk hbs
            clear hds hos hbs
            generalize rd_T116 L jj = y at hy0 hy1 hy2 hy3 hy4 HDS HOS HBS
            generalize hd : dryB L (N.take kk) = bd at HDS
            generalize ho : overB L (N.take kk) = bo at HOS
            generalize hb : burnsB L (N.take kk) = bb at HBS
            clear hd ho hb
            cases bd <;> cases bo <;> cases bb
            · as_aux_lemma =>
              go_wp2_with (first | (go_at_call 126; refine (sburn_calls _ _ _ _ _ _).mono ?_; rintro e w9 ⟨rfl, hb9⟩; have HS9 : Aside0 (St1 w K A B M v2 l0 g l0.length cap w9 L) := ⟨(by repeat (first | with_reducible exact HS.out | with_reducible refine St1.drewN ?_ _ | with_reducible refine St1.drew ?_ | with_reducible refine St1.alloc ?_ _) : St1 w K A B M v2 l0 g l0.length cap _ L).step hb9⟩; have HM9 : Aside0 (Kd.R (Kd.int .i64) 3 w9 (w.heap.size + 1) (fun _ => True) (.slice (some ⟨gn, 0, none⟩) N.length capn) N) := ⟨Kd.R_below (by repeat (first | with_reducible exact HM0.out | with_reducible refine Kd.R_drewN ?_ _ | with_reducible refine Kd.R_drew ?_ | with_reducible refine Kd.R_alloc ?_ _)) hb9⟩; clear hb9))
              go_roundg (N.length - (kk + 1))
              case measure => omega
              case rel =>
                go_light
                refine ⟨kk + 1, by omega, by omega, by go_num, by rw [HDS.out]; simp, by rw [HOS.out]; simp, by rw [HBS.out]; simp, HS9, HM9⟩
            · as_aux_lemma =>
              go_wp2
              go_roundg (N.length - (kk + 1))
              case measure => omega
              case rel =>
                go_light
                refine ⟨kk + 1, by omega, by omega, by go_num, by rw [HDS.out]; simp, by rw [HOS.out]; simp, by rw [HBS.out]; simp, ⟨by repeat (first | with_reducible exact HS.out | with_reducible refine St1.drewN ?_ _ | with_reducible refine St1.drew ?_ | with_reducible refine St1.alloc ?_ _)⟩, ⟨by repeat (first | with_reducible exact HM0.out | with_reducible refine Kd.R_drewN ?_ _ | with_reducible refine Kd.R_drew ?_ | with_reducible refine Kd.R_alloc ?_ _)⟩⟩
            · as_aux_lemma =>
              go_wp2_with (first | (go_at_call 126; refine (sburn_calls _ _ _ _ _ _).mono ?_; rintro e w9 ⟨rfl, hb9⟩; have HS9 : Aside0 (St1 w K A B M v2 l0 g l0.length cap w9 L) := ⟨(by repeat (first | with_reducible exact HS.out | with_reducible refine St1.drewN ?_ _ | with_reducible refine St1.drew ?_ | with_reducible refine St1.alloc ?_ _) : St1 w K A B M v2 l0 g l0.length cap _ L).step hb9⟩; have HM9 : Aside0 (Kd.R (Kd.int .i64) 3 w9 (w.heap.size + 1) (fun _ => True) (.slice (some ⟨gn, 0, none⟩) N.length capn) N) := ⟨Kd.R_below (by repeat (first | with_reducible exact HM0.out | with_reducible refine Kd.R_drewN ?_ _ | with_reducible refine Kd.R_drew ?_ | with_reducible refine Kd.R_alloc ?_ _)) hb9⟩; clear hb9))
              go_roundg (N.length - (kk + 1))
              case measure => omega
              case rel =>
                go_light
                refine ⟨kk + 1, by omega, by omega, by go_num, by rw [HDS.out]; simp, by rw [HOS.out]; simp, by rw [HBS.out]; simp, HS9, HM9⟩
            · as_aux_lemma =>
              go_wp2
              go_roundg (N.length - (kk + 1))
              case measure => omega
              case rel =>
                go_light
                refine ⟨kk + 1, by omega, by omega, by go_num, by rw [HDS.out]; simp, by rw [HOS.out]; simp, by rw [HBS.out]; simp, ⟨by repeat (first | with_reducible exact HS.out | with_reducible refine St1.drewN ?_ _ | with_reducible refine St1.drew ?_ | with_reducible refine St1.alloc ?_ _)⟩, ⟨by repeat (first | with_reducible exact HM0.out | with_reducible refine Kd.R_drewN ?_ _ | with_reducible refine Kd.R_drew ?_ | with_reducible refine Kd.R_alloc ?_ _)⟩⟩
            · as_aux_lemma =>
              go_wp2_with (first | (go_at_call 126; refine (sburn_calls _ _ _ _ _ _).mono ?_; rintro e w9 ⟨rfl, hb9⟩; have HS9 : Aside0 (St1 w K A B M v2 l0 g l0.length cap w9 L) := ⟨(by repeat (first | with_reducible exact HS.out | with_reducible refine St1.drewN ?_ _ | with_reducible refine St1.drew ?_ | with_reducible refine St1.alloc ?_ _) : St1 w K A B M v2 l0 g l0.length cap _ L).step hb9⟩; have HM9 : Aside0 (Kd.R (Kd.int .i64) 3 w9 (w.heap.size + 1) (fun _ => True) (.slice (some ⟨gn, 0, none⟩) N.length capn) N) := ⟨Kd.R_below (by repeat (first | with_reducible exact HM0.out | with_reducible refine Kd.R_drewN ?_ _ | with_reducible refine Kd.R_drew ?_ | with_reducible refine Kd.R_alloc ?_ _)) hb9⟩; clear hb9))
              go_roundg (N.length - (kk + 1))
              case measure => omega
              case rel =>
                go_light
                refine ⟨kk + 1, by omega, by omega, by go_num, by rw [HDS.out]; simp, by rw [HOS.out]; simp, by rw [HBS.out]; simp, HS9, HM9⟩
            · as_aux_lemma =>
              go_wp2
              go_roundg (N.length - (kk + 1))
              case measure => omega
              case rel =>
                go_light
                refine ⟨kk + 1, by omega, by omega, by go_num, by rw [HDS.out]; simp, by rw [HOS.out]; simp, by rw [HBS.out]; simp, ⟨by repeat (first | with_reducible exact HS.out | with_reducible refine St1.drewN ?_ _ | with_reducible refine St1.drew ?_ | with_reducible refine St1.alloc ?_ _)⟩, ⟨by repeat (first | with_reducible exact HM0.out | with_reducible refine Kd.R_drewN ?_ _ | with_reducible refine Kd.R_drew ?_ | with_reducible refine Kd.R_alloc ?_ _)⟩⟩
            · as_aux_lemma =>
              go_wp2_with (first | (go_at_call 126; refine (sburn_calls _ _ _ _ _ _).mono ?_; rintro e w9 ⟨rfl, hb9⟩; have HS9 : Aside0 (St1 w K A B M v2 l0 g l0.length cap w9 L) := ⟨(by repeat (first | with_reducible exact HS.out | with_reducible refine St1.drewN ?_ _ | with_reducible refine St1.drew ?_ | with_reducible refine St1.alloc ?_ _) : St1 w K A B M v2 l0 g l0.length cap _ L).step hb9⟩; have HM9 : Aside0 (Kd.R (Kd.int .i64) 3 w9 (w.heap.size + 1) (fun _ => True) (.slice (some ⟨gn, 0, none⟩) N.length capn) N) := ⟨Kd.R_below (by repeat (first | with_reducible exact HM0.out | with_reducible refine Kd.R_drewN ?_ _ | with_reducible refine Kd.R_drew ?_ | with_reducible refine Kd.R_alloc ?_ _)) hb9⟩; clear hb9))
              go_roundg (N.length - (kk + 1))
              case measure => omega
              case rel =>
                go_light
                refine ⟨kk + 1, by omega, by omega, by go_num, by rw [HDS.out]; simp, by rw [HOS.out]; simp, by rw [HBS.out]; simp, HS9, HM9⟩
            · as_aux_lemma =>
              go_wp2
              go_roundg (N.length - (kk + 1))
              case measure => omega
              case rel =>
                go_light
                refine ⟨kk + 1, by omega, by omega, by go_num, by rw [HDS.out]; simp, by rw [HOS.out]; simp, by rw [HBS.out]; simp, ⟨by repeat (first | with_reducible exact HS.out | with_reducible refine St1.drewN ?_ _ | with_reducible refine St1.drew ?_ | with_reducible refine St1.alloc ?_ _)⟩, ⟨by repeat (first | with_reducible exact HM0.out | with_reducible refine Kd.R_drewN ?_ _ | with_reducible refine Kd.R_drew ?_ | with_reducible refine Kd.R_alloc ?_ _)⟩⟩
          · have hltz : ¬ (kk : Int) < (N.length : Int) := by omega
            have ek : N.take kk = N := List.take_of_length_le (by omega)
            rw [ek]
            clear ek
            have HN := HN.out
            generalize dryB L N = bd at HN
            generalize overB L N = bo at HN
            generalize burnsB L N = bb at HN
            cases bd
            · simp only [Bool.false_eq_true, if_false] at HN
              cases bo
              · simp only [Bool.false_eq_true, if_false] at HN
                cases bb
                · simp only [Bool.false_eq_true, if_false] at HN
                  by_cases hs1 : sizeV (leanV 0 L) > lean
                  · have hs1b : decide (lean < sizeV (leanV 0 L)) = true := decide_eq_true hs1
                    by_cases hs2 : sizeV (leanV 0 L) > sizeV (leanV 0 l0)
                    · have hs2b : decide (sizeV (leanV 0 l0) < sizeV (leanV 0 L)) = true := decide_eq_true hs2
                      rw [if_pos ⟨hs1, hs2⟩] at HN
                      obtain ⟨rfl, rfl⟩ : l0 = r1 ∧ 5 = r2 := by simpa using HN
                      clear HN hs1 hs2
                      go_wp2_with (first | (go_at_call_of 127 (Value.slice (some ⟨g, 0, none⟩) l0.length cap); refine (slean_calls _ _ _ L _ (by first | with_reducible exact (Kd.R_reads' HS.out.row).2.2 | with_reducible exact Kd.C_drewN_ (Kd.R_reads' HS.out.row).2.2 _) (Kd.R_reads' HS.out.row).1 (Kd.R_reads' HS.out.row).2.1 HL0.out).mono ?_; rintro e w6 ⟨rfl, n6, rfl⟩) | (go_at_call 127; refine (slean_calls _ _ _ l0 _ (Kd.C_below HR0.out (by repeat (first | with_reducible exact HS.out.below | with_reducible refine pw_below_drewN ?_ _))) rfl HC0.out HL0.out).mono ?_; rintro e w7 ⟨rfl, n7, rfl⟩))
                      go_ret2
                      go_light
                      refine ⟨v2, rfl, (by first | with_reducible exact HS.out.was_at _ | with_reducible exact HS.out.was0), (by first | with_reducible exact HS.out.below_at _ | with_reducible exact HS.out.below)⟩
                    · have hs2b : decide (sizeV (leanV 0 l0) < sizeV (leanV 0 L)) = false := decide_eq_false hs2
                      rw [if_neg (by intro h; exact hs2 h.2)] at HN
                      obtain ⟨rfl, rfl⟩ : L = r1 ∧ 0 = r2 := by simpa using HN
                      clear HN hs1 hs2
                      go_wp2_with (first | (go_at_call_of 127 (Value.slice (some ⟨g, 0, none⟩) l0.length cap); refine (slean_calls _ _ _ L _ (by first | with_reducible exact (Kd.R_reads' HS.out.row).2.2 | with_reducible exact Kd.C_drewN_ (Kd.R_reads' HS.out.row).2.2 _) (Kd.R_reads' HS.out.row).1 (Kd.R_reads' HS.out.row).2.1 HL0.out).mono ?_; rintro e w6 ⟨rfl, n6, rfl⟩) | (go_at_call 127; refine (slean_calls _ _ _ l0 _ (Kd.C_below HR0.out (by repeat (first | with_reducible exact HS.out.below | with_reducible refine pw_below_drewN ?_ _))) rfl HC0.out HL0.out).mono ?_; rintro e w7 ⟨rfl, n7, rfl⟩))
                      go_ret2
                      go_light
                      refine ⟨.slice (some ⟨g, 0, none⟩) l0.length cap, rfl, (by first | with_reducible exact HS.out.row_at _ | with_reducible exact HS.out.row0), (by first | with_reducible exact HS.out.below_at _ | with_reducible exact HS.out.below)⟩
                  · have hs1b : decide (lean < sizeV (leanV 0 L)) = false := decide_eq_false hs1
                    rw [if_neg (by intro h; exact hs1 h.1)] at HN
                    obtain ⟨rfl, rfl⟩ : L = r1 ∧ 0 = r2 := by simpa using HN
                    clear HN hs1
                    go_wp2_with (first | (go_at_call_of 127 (Value.slice (some ⟨g, 0, none⟩) l0.length cap); refine (slean_calls _ _ _ L _ (by first | with_reducible exact (Kd.R_reads' HS.out.row).2.2 | with_reducible exact Kd.C_drewN_ (Kd.R_reads' HS.out.row).2.2 _) (Kd.R_reads' HS.out.row).1 (Kd.R_reads' HS.out.row).2.1 HL0.out).mono ?_; rintro e w6 ⟨rfl, n6, rfl⟩) | (go_at_call 127; refine (slean_calls _ _ _ l0 _ (Kd.C_below HR0.out (by repeat (first | with_reducible exact HS.out.below | with_reducible refine pw_below_drewN ?_ _))) rfl HC0.out HL0.out).mono ?_; rintro e w7 ⟨rfl, n7, rfl⟩))
                    go_ret2
                    go_light
                    refine ⟨.slice (some ⟨g, 0, none⟩) l0.length cap, rfl, (by first | with_reducible exact HS.out.row_at _ | with_reducible exact HS.out.row0), (by first | with_reducible exact HS.out.below_at _ | with_reducible exact HS.out.below)⟩
                · rw [if_pos rfl] at HN
                  obtain ⟨rfl, rfl⟩ : l0 = r1 ∧ 4 = r2 := by simpa using HN
                  clear HN
                  go_wp2
                  go_ret2
                  go_light
                  refine ⟨v2, rfl, (by first | with_reducible exact HS.out.was_at _ | with_reducible exact HS.out.was0), (by first | with_reducible exact HS.out.below_at _ | with_reducible exact HS.out.below)⟩
              · rw [if_pos rfl] at HN
                obtain ⟨rfl, rfl⟩ : l0 = r1 ∧ 3 = r2 := by simpa using HN
                clear HN
                go_wp2
                go_ret2
                go_light
                refine ⟨v2, rfl, (by first | with_reducible exact HS.out.was_at _ | with_reducible exact HS.out.was0), (by first | with_reducible exact HS.out.below_at _ | with_reducible exact HS.out.below)⟩
            · rw [if_pos rfl] at HN
              obtain ⟨rfl, rfl⟩ : l0 = r1 ∧ 2 = r2 := by simpa using HN
              clear HN
              go_wp2
              go_ret2
              go_light
              refine ⟨v2, rfl, (by first | with_reducible exact HS.out.was_at _ | with_reducible exact HS.out.was0), (by first | with_reducible exact HS.out.below_at _ | with_reducible exact HS.out.below)⟩
    · have HN := H.out
      rw [if_pos hb] at HN
      obtain ⟨rfl, rfl⟩ : l0 = r1 ∧ 1 = r2 := by simpa using HN
      clear HN
      go_wp2
      go_ret2
      exact ⟨v2, rfl, Kd.R_lower ST1.out.was (by omega), ST1.out.below⟩
end Go.Proofs.Ytmdennlkgakfnaa.C
