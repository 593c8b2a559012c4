import Derived.Test.YtmdennlkgakfnaaGC
import Derived.BigRegion
import Derived.Lib.ItoaWalk
namespace Go.Proofs.Ytmdennlkgakfnaa.C
open Go.RowKit Go.Proofs.YtmdennlkgakfnaaW.PrintWords Go.Proofs.YtmdennlkgakfnaaW.PrintLast Go.Proofs.YtmdennlkgakfnaaW.PrintMore
set_option linter.unusedVariables false
set_option linter.unusedSimpArgs false
set_option maxHeartbeats 4000000 in
set_option maxRecDepth 100000 in
theorem impl_CargoStep.calls (A0 : Option Addr) (c0 : Nat) (l0 : List S116) (K A B M lean : Int) (r1 : List S116) (r2 : Int) (w : World) (hr0 : Kd.C k116 w A0 l0.length l0) (hc0 : l0.length ≤ c0) (h : impl_CargoStep.f l0 K A B M lean = some (r1, r2)) :
    Calls Try.prog 86 #[.slice A0 l0.length c0, .agg #[.int .i64 K, .int .i64 A, .int .i64 B, .int .i64 M], .int .i64 lean] w fun e w' => ∃ v0_ : Value, e = .returned (.tuple #[v0_, .int .i64 r2]) ∧ Kd.R k116 116 w' w.heap.size (fun _ => True) v0_ r1 ∧ Below w.heap.size w w' := by
  unfold impl_CargoStep.f at h
  have hl : l0.length ≤ 3518437208882 := by
    by_cases hl : l0.length ≤ 3518437208882
    · exact hl
    · rw [if_neg hl] at h; cases h
  rw [if_pos hl] at h
  have H := Aside0.mk h
  clear h
  have HR0 := Aside0.mk hr0
  have HC0 := Aside0.mk hc0
  have HL0 := Aside0.mk hl
  have hlen : (l0.length : Int) ≤ 3518437208882 := by omega
  have hu114 := Try.underlying114
  have hu116 := Try.underlying116
  clear hr0 hc0 hl
  go_enter Try.func86, Try.ntmps86
  go_upto_region 4 with (first
    | (go_at_call 85; refine (impl_own_impl_CargoTank.calls A0 c0 l0 l0 _ (Kd.C_below HR0.out (below_alloc (Below.refl _ _) _)) HC0.out (by unfold impl_own_impl_CargoTank.f; rw [if_pos HL0.out])).mono ?_; rintro e w1 ⟨v1, rfl, ho, hb⟩; have ST : Aside0 (St0 w K A B M v1 l0 w1) := ⟨⟨blk_below (blk_new _ _) hb, Kd.R_lower ho (by simp), below_step (below_alloc (Below.refl _ _) _) hb⟩⟩; clear ho hb))
  go_cut [28] (fun v28 wc => v28 = .bool (k45 K) ∧ Aside0 (St0 w K A B M v1 l0 wc))
  case first =>
    obtain ⟨hx0, hx1, hx2, hx3⟩ := ST.out.cells
    by_cases h4 : K = 4
    · have h4b : (K == 4) = true := by simp [h4]
      have F : k45 K = true := by simp [k45, h4]
      have FF := Aside0.mk F
      clear F h4
      go_wp2
      go_meet
      case rel => exact ⟨by rw [FF.out], ST⟩
    · have h4b : (K == 4) = false := by simp [h4]
      have FF : Aside0 (k45 K = (K == 5)) := ⟨by simp [k45, h4]⟩
      clear h4
      go_wp2
      go_meet
      case rel => exact ⟨by rw [FF.out], ST⟩
  case rest =>
    obtain ⟨rfl, ST1⟩ := hcut
    clear ST
    go_upto_if 28 with (fail)
    go_cut [10] (fun v10 wc => v10 = .int .i64 (mostOf K) ∧ Aside0 (St0 w K A B M v1 l0 wc))
    case first =>
      cases hk : k45 K
      · have FF : Aside0 (mostOf K = 100000) := ⟨by simp [mostOf, hk]⟩
        go_wp2
        go_meet
        case rel => exact ⟨by rw [FF.out], ST1⟩
      · have FF : Aside0 (mostOf K = 100) := ⟨by simp [mostOf, hk]⟩
        go_wp2
        go_meet
        case rel => exact ⟨by rw [FF.out], ST1⟩
    case rest =>
      obtain ⟨rfl, ST⟩ := hcut
      clear ST1
      go_upto_region 6 with (fail)
      go_cut [75] (fun v75 wc => v75 = .bool (stepBad l0 K A B M lean) ∧ Aside0 (St0 w K A B M v1 l0 wc))
      case first =>
        have L (b : Bool) : b = true ∨ b = false := by cases b <;> simp
        rcases L (tanksB l0) with hT | hT
        · rcases L (inB K 1 5) with h1 | h1
          · rcases L (inB A 0 ((l0.length : Int) - 1)) with h2 | h2
            · rcases L (inB M 1 (mostOf K)) with h3 | h3
              · rcases L (K == 3) with h4 | h4
                · rcases L (inB B 0 ((l0.length : Int) - 1)) with h5 | h5
                  · rcases L (B == A) with h6 | h6
                    · as_aux_lemma => (go_wp2_with (first | (go_at_call 128; refine (tanks_calls A0 c0 l0 _ (Kd.C_below HR0.out ST.out.below) HC0.out).mono ?_; rintro e w2 ⟨rfl, hb⟩; have ST2 : Aside0 (St0 w K A B M v1 l0 w2) := ⟨ST.out.step hb⟩; clear hb; obtain ⟨hx0, hx1, hx2, hx3⟩ := ST2.out.cells) | (go_at_call 74; refine (in_calls _ _ _ _).mono ?_; rintro e w3 ⟨rfl, n3, rfl⟩)); go_meet; case rel => go_light; exact ⟨by simp [stepBad, *], ⟨by repeat (first | exact ST2.out | refine St0.drewN ?_ _)⟩⟩)
                    · rcases L (inB lean 0 100000000) with h7 | h7
                      · as_aux_lemma => (go_wp2_with (first | (go_at_call 128; refine (tanks_calls A0 c0 l0 _ (Kd.C_below HR0.out ST.out.below) HC0.out).mono ?_; rintro e w2 ⟨rfl, hb⟩; have ST2 : Aside0 (St0 w K A B M v1 l0 w2) := ⟨ST.out.step hb⟩; clear hb; obtain ⟨hx0, hx1, hx2, hx3⟩ := ST2.out.cells) | (go_at_call 74; refine (in_calls _ _ _ _).mono ?_; rintro e w3 ⟨rfl, n3, rfl⟩)); go_meet; case rel => go_light; exact ⟨by simp [stepBad, *], ⟨by repeat (first | exact ST2.out | refine St0.drewN ?_ _)⟩⟩)
                      · as_aux_lemma => (go_wp2_with (first | (go_at_call 128; refine (tanks_calls A0 c0 l0 _ (Kd.C_below HR0.out ST.out.below) HC0.out).mono ?_; rintro e w2 ⟨rfl, hb⟩; have ST2 : Aside0 (St0 w K A B M v1 l0 w2) := ⟨ST.out.step hb⟩; clear hb; obtain ⟨hx0, hx1, hx2, hx3⟩ := ST2.out.cells) | (go_at_call 74; refine (in_calls _ _ _ _).mono ?_; rintro e w3 ⟨rfl, n3, rfl⟩)); go_meet; case rel => go_light; exact ⟨by simp [stepBad, *], ⟨by repeat (first | exact ST2.out | refine St0.drewN ?_ _)⟩⟩)
                  · as_aux_lemma => (go_wp2_with (first | (go_at_call 128; refine (tanks_calls A0 c0 l0 _ (Kd.C_below HR0.out ST.out.below) HC0.out).mono ?_; rintro e w2 ⟨rfl, hb⟩; have ST2 : Aside0 (St0 w K A B M v1 l0 w2) := ⟨ST.out.step hb⟩; clear hb; obtain ⟨hx0, hx1, hx2, hx3⟩ := ST2.out.cells) | (go_at_call 74; refine (in_calls _ _ _ _).mono ?_; rintro e w3 ⟨rfl, n3, rfl⟩)); go_meet; case rel => go_light; exact ⟨by simp [stepBad, *], ⟨by repeat (first | exact ST2.out | refine St0.drewN ?_ _)⟩⟩)
                · rcases L (inB lean 0 100000000) with h7 | h7
                  · as_aux_lemma => (go_wp2_with (first | (go_at_call 128; refine (tanks_calls A0 c0 l0 _ (Kd.C_below HR0.out ST.out.below) HC0.out).mono ?_; rintro e w2 ⟨rfl, hb⟩; have ST2 : Aside0 (St0 w K A B M v1 l0 w2) := ⟨ST.out.step hb⟩; clear hb; obtain ⟨hx0, hx1, hx2, hx3⟩ := ST2.out.cells) | (go_at_call 74; refine (in_calls _ _ _ _).mono ?_; rintro e w3 ⟨rfl, n3, rfl⟩)); go_meet; case rel => go_light; exact ⟨by simp [stepBad, *], ⟨by repeat (first | exact ST2.out | refine St0.drewN ?_ _)⟩⟩)
                  · as_aux_lemma => (go_wp2_with (first | (go_at_call 128; refine (tanks_calls A0 c0 l0 _ (Kd.C_below HR0.out ST.out.below) HC0.out).mono ?_; rintro e w2 ⟨rfl, hb⟩; have ST2 : Aside0 (St0 w K A B M v1 l0 w2) := ⟨ST.out.step hb⟩; clear hb; obtain ⟨hx0, hx1, hx2, hx3⟩ := ST2.out.cells) | (go_at_call 74; refine (in_calls _ _ _ _).mono ?_; rintro e w3 ⟨rfl, n3, rfl⟩)); go_meet; case rel => go_light; exact ⟨by simp [stepBad, *], ⟨by repeat (first | exact ST2.out | refine St0.drewN ?_ _)⟩⟩)
              · as_aux_lemma => (go_wp2_with (first | (go_at_call 128; refine (tanks_calls A0 c0 l0 _ (Kd.C_below HR0.out ST.out.below) HC0.out).mono ?_; rintro e w2 ⟨rfl, hb⟩; have ST2 : Aside0 (St0 w K A B M v1 l0 w2) := ⟨ST.out.step hb⟩; clear hb; obtain ⟨hx0, hx1, hx2, hx3⟩ := ST2.out.cells) | (go_at_call 74; refine (in_calls _ _ _ _).mono ?_; rintro e w3 ⟨rfl, n3, rfl⟩)); go_meet; case rel => go_light; exact ⟨by simp [stepBad, *], ⟨by repeat (first | exact ST2.out | refine St0.drewN ?_ _)⟩⟩)
            · as_aux_lemma => (go_wp2_with (first | (go_at_call 128; refine (tanks_calls A0 c0 l0 _ (Kd.C_below HR0.out ST.out.below) HC0.out).mono ?_; rintro e w2 ⟨rfl, hb⟩; have ST2 : Aside0 (St0 w K A B M v1 l0 w2) := ⟨ST.out.step hb⟩; clear hb; obtain ⟨hx0, hx1, hx2, hx3⟩ := ST2.out.cells) | (go_at_call 74; refine (in_calls _ _ _ _).mono ?_; rintro e w3 ⟨rfl, n3, rfl⟩)); go_meet; case rel => go_light; exact ⟨by simp [stepBad, *], ⟨by repeat (first | exact ST2.out | refine St0.drewN ?_ _)⟩⟩)
          · as_aux_lemma => (go_wp2_with (first | (go_at_call 128; refine (tanks_calls A0 c0 l0 _ (Kd.C_below HR0.out ST.out.below) HC0.out).mono ?_; rintro e w2 ⟨rfl, hb⟩; have ST2 : Aside0 (St0 w K A B M v1 l0 w2) := ⟨ST.out.step hb⟩; clear hb; obtain ⟨hx0, hx1, hx2, hx3⟩ := ST2.out.cells) | (go_at_call 74; refine (in_calls _ _ _ _).mono ?_; rintro e w3 ⟨rfl, n3, rfl⟩)); go_meet; case rel => go_light; exact ⟨by simp [stepBad, *], ⟨by repeat (first | exact ST2.out | refine St0.drewN ?_ _)⟩⟩)
        · as_aux_lemma => (go_wp2_with (first | (go_at_call 128; refine (tanks_calls A0 c0 l0 _ (Kd.C_below HR0.out ST.out.below) HC0.out).mono ?_; rintro e w2 ⟨rfl, hb⟩; have ST2 : Aside0 (St0 w K A B M v1 l0 w2) := ⟨ST.out.step hb⟩; clear hb; obtain ⟨hx0, hx1, hx2, hx3⟩ := ST2.out.cells) | (go_at_call 74; refine (in_calls _ _ _ _).mono ?_; rintro e w3 ⟨rfl, n3, rfl⟩)); go_meet; case rel => go_light; exact ⟨by simp [stepBad, *], ⟨by repeat (first | exact ST2.out | refine St0.drewN ?_ _)⟩⟩)
      case rest => as_aux_lemma =>
        obtain ⟨rfl, ST1⟩ := hcut
        clear ST
        cases hb : stepBad l0 K A B M lean
        · have HN := H.out
          rw [if_neg (by rw [hb]; simp)] at HN
          have h := hb
          simp only [stepBad, Bool.or_eq_false_iff, Bool.not_eq_false'] at h
          obtain ⟨⟨⟨⟨⟨hT, h1⟩, h2⟩, h3⟩, h4⟩, h5⟩ := h
          have hA : 0 ≤ A ∧ A < (l0.length : Int) := by simp only [inB, decide_eq_true_eq] at h2; omega
          obtain ⟨hA0, hA1⟩ := hA
          have HN1 := Aside0.mk HN
          have HB5 : Aside0 (1 ≤ K ∧ K ≤ 5) := ⟨by simpa [inB] using h1⟩
          have HB4 : Aside0 (K = 3 → 0 ≤ B ∧ B < (l0.length : Int) ∧ ¬ B = A) := ⟨fun hk => by
            have h4' := h4
            simp only [hk, beq_self_eq_true, Bool.true_and, Bool.or_eq_false_iff, Bool.not_eq_false', inB, decide_eq_true_eq, beq_eq_false_iff_ne] at h4'
            omega⟩
          clear HN hT h1 h2 h3 h4 h5 H
          go_upto_region 9 with (first
            | (go_at_call 85; refine (impl_own_impl_CargoTank.calls A0 c0 l0 l0 _ (Kd.C_below HR0.out ST1.out.below) HC0.out (by unfold impl_own_impl_CargoTank.f; rw [if_pos HL0.out])).mono ?_; rintro e w2 ⟨v2, rfl, ho, hb2⟩; have HW : Aside0 (∀ g, _ ≤ g → Kd.R k116 116 w2 (w.heap.size + 1) (fun k => k ≠ g) v1 l0) := ⟨fun g hg => Kd.R_mono (Kd.R_below (Kd.R_elderB ST1.out.was g hg) hb2) (fun k hk => hk.2)⟩; have ST2 : Aside0 (St0 w K A B M v1 l0 w2) := ⟨ST1.out.step hb2⟩; have HO := Aside0.mk ho; have HGE := Aside0.mk (blk_lt ST1.out.box); clear ho hb2))
          obtain ⟨g, cap, rfl, hge, -, -, -⟩ := Kd.R_form HO.out (by omega)
          have ST : Aside0 (St1 w K A B M v1 l0 g l0.length cap w2 l0) := ⟨⟨ST2.out.box, HW.out g hge, Kd.R_lower HO.out HGE.out, ST2.out.below, Nat.le_trans HGE.out hge⟩⟩
          clear HO HW ST2 HGE hge
          have hne1 := eq_false ST.out.ne
          have hne2 := eq_false (Ne.symm ST.out.ne)
          have hK : K = 1 ∨ K = 2 ∨ K = 3 ∨ K = 4 ∨ K = 5 := by have := HB5.out; omega
          rcases hK with rfl | rfl | rfl | rfl | rfl
          · as_aux_lemma =>
            have HN := HN1.out
            have hm : mostOf 1 = 100000 := by decide
            rw [hm]
            clear hm
            rw [show isFrom 1 = false from rfl, show isTo 1 = true from rfl, show toAt 1 A B = A from rfl] at HN
            obtain ⟨hx0, hx1, hx2, hx3⟩ := ST.out.cells
            obtain ⟨hy0, hy1, hy2, hy3, hy4, hfy⟩ := R_at116 ST.out.row A hA0 hA1
            have hfy0 := hfy 0
            have hfy3 := hfy 3
            have hfy4 := hfy 4
            simp only [Nat.add_zero] at hfy0
            clear hfy
            rw [if_neg (by simp)] at HN
            by_cases ho : wrap64 ((rd_T116 l0 A).f0 + M) > (rd_T116 l0 A).f1
            · have hob : decide ((rd_T116 l0 A).f1 < wrap64 ((rd_T116 l0 A).f0 + M)) = true := decide_eq_true ho
              rw [if_pos ⟨rfl, ho⟩] at HN
              obtain ⟨rfl, rfl⟩ : l0 = r1 ∧ 3 = r2 := by simpa using HN
              clear HN ho
              go_wp2
              repeat (go_quiet (fail); try go_wp2)
              go_ret2
              go_light
              exact ⟨v1, rfl, Kd.R_mono (Kd.R_lower (by repeat (first | exact ST.out.was | refine Kd.R_drewN ?_ _ | refine Kd.R_drew ?_)) (by omega)) (fun _ _ => trivial), by repeat (first | exact ST.out.below | refine pw_below_drewN ?_ _ | refine below_drew1 ?_)⟩
            · have hob : decide ((rd_T116 l0 A).f1 < wrap64 ((rd_T116 l0 A).f0 + M)) = false := decide_eq_false ho
              rw [if_neg (by intro h; exact ho h.2)] at HN
              clear ho
              rw [if_neg (by simp)] at HN
              have HN := Aside0.mk HN
              go_upto_region 18 with (fail)
              go_quiet (fail)
              go_upto_region 20 with (fail)
              go_quiet (fail)
              go_wp2
              go_region
              go_upto_region 31 with (fail)
              go_name_world w3 hw3
              have STL0 : Aside0 (St1 w 1 A B M v1 l0 g l0.length cap w3 (changed l0 1 A B M)) := ⟨by rw [← hw3]; exact (by repeat (first | exact St1.fill (by repeat (first | exact ST.out | refine St1.drewN ?_ _ | refine St1.drew ?_)) A M hA0 hA1 | refine St1.drewN ?_ _ | refine St1.drew ?_))⟩
              clear hw3
              (try clear hx0 hx1 hx2 hx3); (try clear hy0 hy1 hy2 hy3 hy4 hfy0 hfy3 hfy4); (try clear hz0 hz1 hz2 hz3 hz4 hfz0 hfz3 hfz4)
              generalize hL : changed l0 1 A B M = L at HN STL0
              clear hL
              have STL := STL0
              clear STL0 ST
              obtain ⟨hx0, hx1, hx2, hx3⟩ := STL.out.cells
              obtain ⟨hy0, hy1, hy2, hy3, hy4, hfy⟩ := R_at116 STL.out.row A hA0 hA1
              have hfy0 := hfy 0
              have hfy3 := hfy 3
              have hfy4 := hfy 4
              simp only [Nat.add_zero] at hfy0
              clear hfy
              cases hq1 : burnB ⟨(rd_T116 L A).f0, (rd_T116 L A).f1, (rd_T116 L A).f2, (rd_T116 L A).f3, (rd_T116 L A).f4⟩
              · skip
                go_upto_region 33 with (first | (go_at_call 130; refine (burn_calls _ _ _ _ _ _).mono ?_; rintro e w4 ⟨rfl, hb4⟩; have ST4 : Aside0 (St1 w 1 A B M v1 l0 g l0.length cap w4 L) := ⟨STL.out.step hb4⟩; clear hb4; obtain ⟨hx0, hx1, hx2, hx3⟩ := ST4.out.cells))
                have HN := HN.out
                rw [if_neg (by simp; first | exact hq1 | exact ⟨hq1, hq2⟩)] at HN
                by_cases hs1 : sizeV (leanV 0 L) > lean
                · have hs1b : decide (lean < sizeV (leanV 0 L)) = true := decide_eq_true hs1
                  by_cases hs2 : sizeV (leanV 0 L) > sizeV (leanV 0 l0)
                  · have hs2b : decide (sizeV (leanV 0 l0) < sizeV (leanV 0 L)) = true := decide_eq_true hs2
                    rw [if_pos ⟨hs1, hs2⟩] at HN
                    obtain ⟨rfl, rfl⟩ : l0 = r1 ∧ 5 = r2 := by simpa using HN
                    clear HN hs1 hs2
                    go_wp2_with (first | (go_at_call_of 132 (Value.slice (some ⟨g, 0, none⟩) l0.length cap); refine (lean_calls2 _ _ _ L _ (Kd.R_reads' ST4.out.row).2.2 (Kd.R_reads' ST4.out.row).1 (Kd.R_reads' ST4.out.row).2.1 HL0.out).mono ?_; rintro e w6 ⟨rfl, hb6⟩; have ST6 : Aside0 (St1 w 1 A B M v1 l0 g l0.length cap w6 L) := ⟨ST4.out.step hb6⟩; clear hb6) | (go_at_call 132; refine (lean_calls _ _ l0 _ (Kd.C_below HR0.out (by repeat (first | exact ST6.out.below | refine pw_below_drewN ?_ _))) HC0.out HL0.out).mono ?_; rintro e w7 ⟨rfl, hb7⟩; have ST7 : Aside0 (St1 w 1 A B M v1 l0 g l0.length cap w7 L) := ⟨(by repeat (first | exact ST6.out | refine St1.drewN ?_ _) : St1 w 1 A B M v1 l0 g l0.length cap _ L).step hb7⟩; clear hb7) | (go_at_call 131; refine (size_calls _ _).mono ?_; rintro e w8 ⟨rfl, n8, rfl⟩))
                    go_ret2
                    go_light
                    exact ⟨v1, rfl, Kd.R_mono (Kd.R_lower (by repeat (first | exact ST7.out.was | refine Kd.R_drewN ?_ _)) (by omega)) (fun _ _ => trivial), by repeat (first | exact ST7.out.below | refine pw_below_drewN ?_ _)⟩
                  · have hs2b : decide (sizeV (leanV 0 l0) < sizeV (leanV 0 L)) = false := decide_eq_false hs2
                    rw [if_neg (by intro h; exact hs2 h.2)] at HN
                    obtain ⟨rfl, rfl⟩ : L = r1 ∧ 0 = r2 := by simpa using HN
                    clear HN hs1 hs2
                    go_wp2_with (first | (go_at_call_of 132 (Value.slice (some ⟨g, 0, none⟩) l0.length cap); refine (lean_calls2 _ _ _ L _ (Kd.R_reads' ST4.out.row).2.2 (Kd.R_reads' ST4.out.row).1 (Kd.R_reads' ST4.out.row).2.1 HL0.out).mono ?_; rintro e w6 ⟨rfl, hb6⟩; have ST6 : Aside0 (St1 w 1 A B M v1 l0 g l0.length cap w6 L) := ⟨ST4.out.step hb6⟩; clear hb6) | (go_at_call 132; refine (lean_calls _ _ l0 _ (Kd.C_below HR0.out (by repeat (first | exact ST6.out.below | refine pw_below_drewN ?_ _))) HC0.out HL0.out).mono ?_; rintro e w7 ⟨rfl, hb7⟩; have ST7 : Aside0 (St1 w 1 A B M v1 l0 g l0.length cap w7 L) := ⟨(by repeat (first | exact ST6.out | refine St1.drewN ?_ _) : St1 w 1 A B M v1 l0 g l0.length cap _ L).step hb7⟩; clear hb7) | (go_at_call 131; refine (size_calls _ _).mono ?_; rintro e w8 ⟨rfl, n8, rfl⟩))
                    go_ret2
                    go_light
                    exact ⟨_, rfl, Kd.R_lower (by repeat (first | exact ST7.out.row | refine Kd.R_drewN ?_ _)) (by omega), by repeat (first | exact ST7.out.below | refine pw_below_drewN ?_ _)⟩
                · have hs1b : decide (lean < sizeV (leanV 0 L)) = false := decide_eq_false hs1
                  rw [if_neg (by intro h; exact hs1 h.1)] at HN
                  obtain ⟨rfl, rfl⟩ : L = r1 ∧ 0 = r2 := by simpa using HN
                  clear HN hs1
                  go_wp2_with (first | (go_at_call_of 132 (Value.slice (some ⟨g, 0, none⟩) l0.length cap); refine (lean_calls2 _ _ _ L _ (Kd.R_reads' ST4.out.row).2.2 (Kd.R_reads' ST4.out.row).1 (Kd.R_reads' ST4.out.row).2.1 HL0.out).mono ?_; rintro e w6 ⟨rfl, hb6⟩; have ST6 : Aside0 (St1 w 1 A B M v1 l0 g l0.length cap w6 L) := ⟨ST4.out.step hb6⟩; clear hb6) | (go_at_call 132; refine (lean_calls _ _ l0 _ (Kd.C_below HR0.out (by repeat (first | exact ST6.out.below | refine pw_below_drewN ?_ _))) HC0.out HL0.out).mono ?_; rintro e w7 ⟨rfl, hb7⟩; have ST7 : Aside0 (St1 w 1 A B M v1 l0 g l0.length cap w7 L) := ⟨(by repeat (first | exact ST6.out | refine St1.drewN ?_ _) : St1 w 1 A B M v1 l0 g l0.length cap _ L).step hb7⟩; clear hb7) | (go_at_call 131; refine (size_calls _ _).mono ?_; rintro e w8 ⟨rfl, n8, rfl⟩))
                  go_ret2
                  go_light
                  exact ⟨_, rfl, Kd.R_lower (by repeat (first | exact ST6.out.row | refine Kd.R_drewN ?_ _)) (by omega), by repeat (first | exact ST6.out.below | refine pw_below_drewN ?_ _)⟩
              · skip
                have HN := HN.out
                rw [if_pos (by simp; exact hq1)] at HN
                obtain ⟨rfl, rfl⟩ : l0 = r1 ∧ 4 = r2 := by simpa using HN
                clear HN
                go_wp2_with (first | (go_at_call 130; refine (burn_calls _ _ _ _ _ _).mono ?_; rintro e w4 ⟨rfl, hb4⟩; have ST4 : Aside0 (St1 w 1 A B M v1 l0 g l0.length cap w4 L) := ⟨STL.out.step hb4⟩; clear hb4; obtain ⟨hx0, hx1, hx2, hx3⟩ := ST4.out.cells))
                go_ret2
                go_light
                exact ⟨v1, rfl, Kd.R_mono (Kd.R_lower ST4.out.was (by omega)) (fun _ _ => trivial), ST4.out.below⟩
          · as_aux_lemma =>
            have HN := HN1.out
            have hm : mostOf 2 = 100000 := by decide
            rw [hm]
            clear hm
            rw [show isFrom 2 = true from rfl, show isTo 2 = false from rfl, show toAt 2 A B = B from rfl] at HN
            obtain ⟨hx0, hx1, hx2, hx3⟩ := ST.out.cells
            obtain ⟨hy0, hy1, hy2, hy3, hy4, hfy⟩ := R_at116 ST.out.row A hA0 hA1
            have hfy0 := hfy 0
            have hfy3 := hfy 3
            have hfy4 := hfy 4
            simp only [Nat.add_zero] at hfy0
            clear hfy
            by_cases hd : (rd_T116 l0 A).f0 < M
            · have hdb : decide ((rd_T116 l0 A).f0 < M) = true := decide_eq_true hd
              rw [if_pos ⟨rfl, hd⟩] at HN
              obtain ⟨rfl, rfl⟩ : l0 = r1 ∧ 2 = r2 := by simpa using HN
              clear HN hd
              go_wp2
              repeat (go_quiet (fail); try go_wp2)
              go_ret2
              go_light
              exact ⟨v1, rfl, Kd.R_mono (Kd.R_lower (by repeat (first | exact ST.out.was | refine Kd.R_drewN ?_ _ | refine Kd.R_drew ?_)) (by omega)) (fun _ _ => trivial), by repeat (first | exact ST.out.below | refine pw_below_drewN ?_ _ | refine below_drew1 ?_)⟩
            · have hdb : decide ((rd_T116 l0 A).f0 < M) = false := decide_eq_false hd
              rw [if_neg (by intro h; exact hd h.2)] at HN
              clear hd
              rw [if_neg (by simp)] at HN
              have hr0 : ¬ wrap64 ((rd_T116 l0 A).f1 - wrap64 ((rd_T116 l0 A).f0 - M)) = 0 := fun h => by rw [if_pos ⟨rfl, h⟩] at HN; cases HN
              rw [if_neg (by intro h; exact hr0 h.2)] at HN
              have HR := Aside0.mk hr0
              clear hr0
              have HN := Aside0.mk HN
              go_upto_region 18 with (fail)
              go_quiet (fail)
              go_upto_region 20 with (fail)
              go_quiet (fail)
              go_upto_region 24 with (first | (go_at_call 129; refine (out_at _ _ _ _ _ l0 A M _ (by repeat (first | exact ST.out.row | refine Kd.R_drewN ?_ _ | refine Kd.R_drew ?_)) hA0 hA1 HR.out).mono ?_; rintro e w9 ⟨rfl, hr9, hg9⟩; have ST9 : Aside0 (St1 w 2 A B M v1 l0 g l0.length cap w9 (l0.set A.toNat (outT (rd_T116 l0 A) M))) := ⟨(by repeat (first | exact ST.out | refine St1.drewN ?_ _ | refine St1.drew ?_) : St1 w 2 A B M v1 l0 g l0.length cap _ l0).put hr9 hg9⟩; clear hr9 hg9))
              clear hx0 hx1 hx2 hx3 hy0 hy1 hy2 hy3 hy4 hfy0 hfy3 hfy4
              obtain ⟨hx0, hx1, hx2, hx3⟩ := ST9.out.cells
              go_upto_region 31 with (fail)
              go_name_world w3 hw3
              have STL0 : Aside0 (St1 w 2 A B M v1 l0 g l0.length cap w3 (changed l0 2 A B M)) := ⟨by rw [← hw3]; exact (by repeat (first | exact ST9.out | refine St1.drewN ?_ _ | refine St1.drew ?_))⟩
              clear hw3
              (try clear hx0 hx1 hx2 hx3); (try clear hy0 hy1 hy2 hy3 hy4 hfy0 hfy3 hfy4); (try clear hz0 hz1 hz2 hz3 hz4 hfz0 hfz3 hfz4)
              generalize hL : changed l0 2 A B M = L at HN STL0
              clear hL
              have STL := STL0
              clear STL0 ST ST9
              obtain ⟨hx0, hx1, hx2, hx3⟩ := STL.out.cells
              obtain ⟨hy0, hy1, hy2, hy3, hy4, hfy⟩ := R_at116 STL.out.row A hA0 hA1
              have hfy0 := hfy 0
              have hfy3 := hfy 3
              have hfy4 := hfy 4
              simp only [Nat.add_zero] at hfy0
              clear hfy
              cases hq1 : burnB ⟨(rd_T116 L A).f0, (rd_T116 L A).f1, (rd_T116 L A).f2, (rd_T116 L A).f3, (rd_T116 L A).f4⟩
              · skip
                go_upto_region 33 with (first | (go_at_call 130; refine (burn_calls _ _ _ _ _ _).mono ?_; rintro e w4 ⟨rfl, hb4⟩; have ST4 : Aside0 (St1 w 2 A B M v1 l0 g l0.length cap w4 L) := ⟨STL.out.step hb4⟩; clear hb4; obtain ⟨hx0, hx1, hx2, hx3⟩ := ST4.out.cells))
                have HN := HN.out
                rw [if_neg (by simp; first | exact hq1 | exact ⟨hq1, hq2⟩)] at HN
                by_cases hs1 : sizeV (leanV 0 L) > lean
                · have hs1b : decide (lean < sizeV (leanV 0 L)) = true := decide_eq_true hs1
                  by_cases hs2 : sizeV (leanV 0 L) > sizeV (leanV 0 l0)
                  · have hs2b : decide (sizeV (leanV 0 l0) < sizeV (leanV 0 L)) = true := decide_eq_true hs2
                    rw [if_pos ⟨hs1, hs2⟩] at HN
                    obtain ⟨rfl, rfl⟩ : l0 = r1 ∧ 5 = r2 := by simpa using HN
                    clear HN hs1 hs2
                    go_wp2_with (first | (go_at_call_of 132 (Value.slice (some ⟨g, 0, none⟩) l0.length cap); refine (lean_calls2 _ _ _ L _ (Kd.R_reads' ST4.out.row).2.2 (Kd.R_reads' ST4.out.row).1 (Kd.R_reads' ST4.out.row).2.1 HL0.out).mono ?_; rintro e w6 ⟨rfl, hb6⟩; have ST6 : Aside0 (St1 w 2 A B M v1 l0 g l0.length cap w6 L) := ⟨ST4.out.step hb6⟩; clear hb6) | (go_at_call 132; refine (lean_calls _ _ l0 _ (Kd.C_below HR0.out (by repeat (first | exact ST6.out.below | refine pw_below_drewN ?_ _))) HC0.out HL0.out).mono ?_; rintro e w7 ⟨rfl, hb7⟩; have ST7 : Aside0 (St1 w 2 A B M v1 l0 g l0.length cap w7 L) := ⟨(by repeat (first | exact ST6.out | refine St1.drewN ?_ _) : St1 w 2 A B M v1 l0 g l0.length cap _ L).step hb7⟩; clear hb7) | (go_at_call 131; refine (size_calls _ _).mono ?_; rintro e w8 ⟨rfl, n8, rfl⟩))
                    go_ret2
                    go_light
                    exact ⟨v1, rfl, Kd.R_mono (Kd.R_lower (by repeat (first | exact ST7.out.was | refine Kd.R_drewN ?_ _)) (by omega)) (fun _ _ => trivial), by repeat (first | exact ST7.out.below | refine pw_below_drewN ?_ _)⟩
                  · have hs2b : decide (sizeV (leanV 0 l0) < sizeV (leanV 0 L)) = false := decide_eq_false hs2
                    rw [if_neg (by intro h; exact hs2 h.2)] at HN
                    obtain ⟨rfl, rfl⟩ : L = r1 ∧ 0 = r2 := by simpa using HN
                    clear HN hs1 hs2
                    go_wp2_with (first | (go_at_call_of 132 (Value.slice (some ⟨g, 0, none⟩) l0.length cap); refine (lean_calls2 _ _ _ L _ (Kd.R_reads' ST4.out.row).2.2 (Kd.R_reads' ST4.out.row).1 (Kd.R_reads' ST4.out.row).2.1 HL0.out).mono ?_; rintro e w6 ⟨rfl, hb6⟩; have ST6 : Aside0 (St1 w 2 A B M v1 l0 g l0.length cap w6 L) := ⟨ST4.out.step hb6⟩; clear hb6) | (go_at_call 132; refine (lean_calls _ _ l0 _ (Kd.C_below HR0.out (by repeat (first | exact ST6.out.below | refine pw_below_drewN ?_ _))) HC0.out HL0.out).mono ?_; rintro e w7 ⟨rfl, hb7⟩; have ST7 : Aside0 (St1 w 2 A B M v1 l0 g l0.length cap w7 L) := ⟨(by repeat (first | exact ST6.out | refine St1.drewN ?_ _) : St1 w 2 A B M v1 l0 g l0.length cap _ L).step hb7⟩; clear hb7) | (go_at_call 131; refine (size_calls _ _).mono ?_; rintro e w8 ⟨rfl, n8, rfl⟩))
                    go_ret2
                    go_light
                    exact ⟨_, rfl, Kd.R_lower (by repeat (first | exact ST7.out.row | refine Kd.R_drewN ?_ _)) (by omega), by repeat (first | exact ST7.out.below | refine pw_below_drewN ?_ _)⟩
                · have hs1b : decide (lean < sizeV (leanV 0 L)) = false := decide_eq_false hs1
                  rw [if_neg (by intro h; exact hs1 h.1)] at HN
                  obtain ⟨rfl, rfl⟩ : L = r1 ∧ 0 = r2 := by simpa using HN
                  clear HN hs1
                  go_wp2_with (first | (go_at_call_of 132 (Value.slice (some ⟨g, 0, none⟩) l0.length cap); refine (lean_calls2 _ _ _ L _ (Kd.R_reads' ST4.out.row).2.2 (Kd.R_reads' ST4.out.row).1 (Kd.R_reads' ST4.out.row).2.1 HL0.out).mono ?_; rintro e w6 ⟨rfl, hb6⟩; have ST6 : Aside0 (St1 w 2 A B M v1 l0 g l0.length cap w6 L) := ⟨ST4.out.step hb6⟩; clear hb6) | (go_at_call 132; refine (lean_calls _ _ l0 _ (Kd.C_below HR0.out (by repeat (first | exact ST6.out.below | refine pw_below_drewN ?_ _))) HC0.out HL0.out).mono ?_; rintro e w7 ⟨rfl, hb7⟩; have ST7 : Aside0 (St1 w 2 A B M v1 l0 g l0.length cap w7 L) := ⟨(by repeat (first | exact ST6.out | refine St1.drewN ?_ _) : St1 w 2 A B M v1 l0 g l0.length cap _ L).step hb7⟩; clear hb7) | (go_at_call 131; refine (size_calls _ _).mono ?_; rintro e w8 ⟨rfl, n8, rfl⟩))
                  go_ret2
                  go_light
                  exact ⟨_, rfl, Kd.R_lower (by repeat (first | exact ST6.out.row | refine Kd.R_drewN ?_ _)) (by omega), by repeat (first | exact ST6.out.below | refine pw_below_drewN ?_ _)⟩
              · skip
                have HN := HN.out
                rw [if_pos (by simp; exact hq1)] at HN
                obtain ⟨rfl, rfl⟩ : l0 = r1 ∧ 4 = r2 := by simpa using HN
                clear HN
                go_wp2_with (first | (go_at_call 130; refine (burn_calls _ _ _ _ _ _).mono ?_; rintro e w4 ⟨rfl, hb4⟩; have ST4 : Aside0 (St1 w 2 A B M v1 l0 g l0.length cap w4 L) := ⟨STL.out.step hb4⟩; clear hb4; obtain ⟨hx0, hx1, hx2, hx3⟩ := ST4.out.cells))
                go_ret2
                go_light
                exact ⟨v1, rfl, Kd.R_mono (Kd.R_lower ST4.out.was (by omega)) (fun _ _ => trivial), ST4.out.below⟩
          · as_aux_lemma =>
            have HN := HN1.out
            have hm : mostOf 3 = 100000 := by decide
            rw [hm]
            clear hm
            rw [show isFrom 3 = true from rfl, show isTo 3 = true from rfl, show toAt 3 A B = B from rfl] at HN
            obtain ⟨hB0, hB1, hBA⟩ := HB4.out rfl
            obtain ⟨hx0, hx1, hx2, hx3⟩ := ST.out.cells
            obtain ⟨hy0, hy1, hy2, hy3, hy4, hfy⟩ := R_at116 ST.out.row A hA0 hA1
            have hfy0 := hfy 0
            have hfy3 := hfy 3
            have hfy4 := hfy 4
            simp only [Nat.add_zero] at hfy0
            clear hfy
            obtain ⟨hz0, hz1, hz2, hz3, hz4, hfz⟩ := R_at116 ST.out.row B hB0 hB1
            have hfz0 := hfz 0
            have hfz3 := hfz 3
            have hfz4 := hfz 4
            simp only [Nat.add_zero] at hfz0
            clear hfz
            by_cases hd : (rd_T116 l0 A).f0 < M
            · have hdb : decide ((rd_T116 l0 A).f0 < M) = true := decide_eq_true hd
              rw [if_pos ⟨rfl, hd⟩] at HN
              obtain ⟨rfl, rfl⟩ : l0 = r1 ∧ 2 = r2 := by simpa using HN
              clear HN hd
              go_wp2
              repeat (go_quiet (fail); try go_wp2)
              go_ret2
              go_light
              exact ⟨v1, rfl, Kd.R_mono (Kd.R_lower (by repeat (first | exact ST.out.was | refine Kd.R_drewN ?_ _ | refine Kd.R_drew ?_)) (by omega)) (fun _ _ => trivial), by repeat (first | exact ST.out.below | refine pw_below_drewN ?_ _ | refine below_drew1 ?_)⟩
            · have hdb : decide ((rd_T116 l0 A).f0 < M) = false := decide_eq_false hd
              rw [if_neg (by intro h; exact hd h.2)] at HN
              clear hd
              by_cases ho : wrap64 ((rd_T116 l0 B).f0 + M) > (rd_T116 l0 B).f1
              · have hob : decide ((rd_T116 l0 B).f1 < wrap64 ((rd_T116 l0 B).f0 + M)) = true := decide_eq_true ho
                rw [if_pos ⟨rfl, ho⟩] at HN
                obtain ⟨rfl, rfl⟩ : l0 = r1 ∧ 3 = r2 := by simpa using HN
                clear HN ho
                go_wp2
                repeat (go_quiet (fail); try go_wp2)
                go_ret2
                go_light
                exact ⟨v1, rfl, Kd.R_mono (Kd.R_lower (by repeat (first | exact ST.out.was | refine Kd.R_drewN ?_ _ | refine Kd.R_drew ?_)) (by omega)) (fun _ _ => trivial), by repeat (first | exact ST.out.below | refine pw_below_drewN ?_ _ | refine below_drew1 ?_)⟩
              · have hob : decide ((rd_T116 l0 B).f1 < wrap64 ((rd_T116 l0 B).f0 + M)) = false := decide_eq_false ho
                rw [if_neg (by intro h; exact ho h.2)] at HN
                clear ho
                have hr0 : ¬ wrap64 ((rd_T116 l0 A).f1 - wrap64 ((rd_T116 l0 A).f0 - M)) = 0 := fun h => by rw [if_pos ⟨rfl, h⟩] at HN; cases HN
                rw [if_neg (by intro h; exact hr0 h.2)] at HN
                have HR := Aside0.mk hr0
                clear hr0
                have HN := Aside0.mk HN
                go_upto_region 17 with (fail)
                go_quiet (fail)
                go_upto_region 18 with (fail)
                go_quiet (fail)
                go_upto_region 20 with (fail)
                go_quiet (fail)
                go_upto_region 24 with (first | (go_at_call 129; refine (out_at _ _ _ _ _ l0 A M _ (by repeat (first | exact ST.out.row | refine Kd.R_drewN ?_ _ | refine Kd.R_drew ?_)) hA0 hA1 HR.out).mono ?_; rintro e w9 ⟨rfl, hr9, hg9⟩; have ST9 : Aside0 (St1 w 3 A B M v1 l0 g l0.length cap w9 (l0.set A.toNat (outT (rd_T116 l0 A) M))) := ⟨(by repeat (first | exact ST.out | refine St1.drewN ?_ _ | refine St1.drew ?_) : St1 w 3 A B M v1 l0 g l0.length cap _ l0).put hr9 hg9⟩; clear hr9 hg9))
                clear hx0 hx1 hx2 hx3 hy0 hy1 hy2 hy3 hy4 hfy0 hfy3 hfy4 hz0 hz1 hz2 hz3 hz4 hfz0 hfz3 hfz4
                obtain ⟨hx0, hx1, hx2, hx3⟩ := ST9.out.cells
                obtain ⟨hz0, hz1, hz2, hz3, hz4, hfz⟩ := R_at116 ST9.out.row B hB0 hB1
                have hfz0 := hfz 0
                have hfz3 := hfz 3
                have hfz4 := hfz 4
                simp only [Nat.add_zero] at hfz0
                clear hfz
                go_wp2
                go_region
                go_upto_region 31 with (fail)
                go_name_world w3 hw3
                have STL0 : Aside0 (St1 w 3 A B M v1 l0 g l0.length cap w3 (changed l0 3 A B M)) := ⟨by rw [← hw3]; exact (by repeat (first | exact St1.fill (by repeat (first | exact ST9.out | refine St1.drewN ?_ _ | refine St1.drew ?_)) B M hB0 hB1 | refine St1.drewN ?_ _ | refine St1.drew ?_))⟩
                clear hw3
                (try clear hx0 hx1 hx2 hx3); (try clear hy0 hy1 hy2 hy3 hy4 hfy0 hfy3 hfy4); (try clear hz0 hz1 hz2 hz3 hz4 hfz0 hfz3 hfz4)
                generalize hL : changed l0 3 A B M = L at HN STL0
                clear hL
                have STL := STL0
                clear STL0 ST ST9
                obtain ⟨hx0, hx1, hx2, hx3⟩ := STL.out.cells
                obtain ⟨hy0, hy1, hy2, hy3, hy4, hfy⟩ := R_at116 STL.out.row A hA0 hA1
                have hfy0 := hfy 0
                have hfy3 := hfy 3
                have hfy4 := hfy 4
                simp only [Nat.add_zero] at hfy0
                clear hfy
                cases hq1 : burnB ⟨(rd_T116 L A).f0, (rd_T116 L A).f1, (rd_T116 L A).f2, (rd_T116 L A).f3, (rd_T116 L A).f4⟩
                · skip
                  cases hq2 : burnB ⟨(rd_T116 L B).f0, (rd_T116 L B).f1, (rd_T116 L B).f2, (rd_T116 L B).f3, (rd_T116 L B).f4⟩
                  · skip
                    go_upto_region 33 with (first | (go_at_call 130; refine (burn_calls _ _ _ _ _ _).mono ?_; rintro e w5 ⟨rfl, hb5⟩; have ST5 : Aside0 (St1 w 3 A B M v1 l0 g l0.length cap w5 L) := ⟨ST4.out.step hb5⟩; clear hb5) | (go_at_call 130; refine (burn_calls _ _ _ _ _ _).mono ?_; rintro e w4 ⟨rfl, hb4⟩; have ST4 : Aside0 (St1 w 3 A B M v1 l0 g l0.length cap w4 L) := ⟨STL.out.step hb4⟩; clear hb4; obtain ⟨hx0, hx1, hx2, hx3⟩ := ST4.out.cells; obtain ⟨hz0, hz1, hz2, hz3, hz4, hfz⟩ := R_at116 ST4.out.row B hB0 hB1; clear hfz))
                    have HN := HN.out
                    rw [if_neg (by simp; first | exact hq1 | exact ⟨hq1, hq2⟩)] at HN
                    by_cases hs1 : sizeV (leanV 0 L) > lean
                    · have hs1b : decide (lean < sizeV (leanV 0 L)) = true := decide_eq_true hs1
                      by_cases hs2 : sizeV (leanV 0 L) > sizeV (leanV 0 l0)
                      · have hs2b : decide (sizeV (leanV 0 l0) < sizeV (leanV 0 L)) = true := decide_eq_true hs2
                        rw [if_pos ⟨hs1, hs2⟩] at HN
                        obtain ⟨rfl, rfl⟩ : l0 = r1 ∧ 5 = r2 := by simpa using HN
                        clear HN hs1 hs2
                        go_wp2_with (first | (go_at_call_of 132 (Value.slice (some ⟨g, 0, none⟩) l0.length cap); refine (lean_calls2 _ _ _ L _ (Kd.R_reads' ST5.out.row).2.2 (Kd.R_reads' ST5.out.row).1 (Kd.R_reads' ST5.out.row).2.1 HL0.out).mono ?_; rintro e w6 ⟨rfl, hb6⟩; have ST6 : Aside0 (St1 w 3 A B M v1 l0 g l0.length cap w6 L) := ⟨ST5.out.step hb6⟩; clear hb6) | (go_at_call 132; refine (lean_calls _ _ l0 _ (Kd.C_below HR0.out (by repeat (first | exact ST6.out.below | refine pw_below_drewN ?_ _))) HC0.out HL0.out).mono ?_; rintro e w7 ⟨rfl, hb7⟩; have ST7 : Aside0 (St1 w 3 A B M v1 l0 g l0.length cap w7 L) := ⟨(by repeat (first | exact ST6.out | refine St1.drewN ?_ _) : St1 w 3 A B M v1 l0 g l0.length cap _ L).step hb7⟩; clear hb7) | (go_at_call 131; refine (size_calls _ _).mono ?_; rintro e w8 ⟨rfl, n8, rfl⟩))
                        go_ret2
                        go_light
                        exact ⟨v1, rfl, Kd.R_mono (Kd.R_lower (by repeat (first | exact ST7.out.was | refine Kd.R_drewN ?_ _)) (by omega)) (fun _ _ => trivial), by repeat (first | exact ST7.out.below | refine pw_below_drewN ?_ _)⟩
                      · have hs2b : decide (sizeV (leanV 0 l0) < sizeV (leanV 0 L)) = false := decide_eq_false hs2
                        rw [if_neg (by intro h; exact hs2 h.2)] at HN
                        obtain ⟨rfl, rfl⟩ : L = r1 ∧ 0 = r2 := by simpa using HN
                        clear HN hs1 hs2
                        go_wp2_with (first | (go_at_call_of 132 (Value.slice (some ⟨g, 0, none⟩) l0.length cap); refine (lean_calls2 _ _ _ L _ (Kd.R_reads' ST5.out.row).2.2 (Kd.R_reads' ST5.out.row).1 (Kd.R_reads' ST5.out.row).2.1 HL0.out).mono ?_; rintro e w6 ⟨rfl, hb6⟩; have ST6 : Aside0 (St1 w 3 A B M v1 l0 g l0.length cap w6 L) := ⟨ST5.out.step hb6⟩; clear hb6) | (go_at_call 132; refine (lean_calls _ _ l0 _ (Kd.C_below HR0.out (by repeat (first | exact ST6.out.below | refine pw_below_drewN ?_ _))) HC0.out HL0.out).mono ?_; rintro e w7 ⟨rfl, hb7⟩; have ST7 : Aside0 (St1 w 3 A B M v1 l0 g l0.length cap w7 L) := ⟨(by repeat (first | exact ST6.out | refine St1.drewN ?_ _) : St1 w 3 A B M v1 l0 g l0.length cap _ L).step hb7⟩; clear hb7) | (go_at_call 131; refine (size_calls _ _).mono ?_; rintro e w8 ⟨rfl, n8, rfl⟩))
                        go_ret2
                        go_light
                        exact ⟨_, rfl, Kd.R_lower (by repeat (first | exact ST7.out.row | refine Kd.R_drewN ?_ _)) (by omega), by repeat (first | exact ST7.out.below | refine pw_below_drewN ?_ _)⟩
                    · have hs1b : decide (lean < sizeV (leanV 0 L)) = false := decide_eq_false hs1
                      rw [if_neg (by intro h; exact hs1 h.1)] at HN
                      obtain ⟨rfl, rfl⟩ : L = r1 ∧ 0 = r2 := by simpa using HN
                      clear HN hs1
                      go_wp2_with (first | (go_at_call_of 132 (Value.slice (some ⟨g, 0, none⟩) l0.length cap); refine (lean_calls2 _ _ _ L _ (Kd.R_reads' ST5.out.row).2.2 (Kd.R_reads' ST5.out.row).1 (Kd.R_reads' ST5.out.row).2.1 HL0.out).mono ?_; rintro e w6 ⟨rfl, hb6⟩; have ST6 : Aside0 (St1 w 3 A B M v1 l0 g l0.length cap w6 L) := ⟨ST5.out.step hb6⟩; clear hb6) | (go_at_call 132; refine (lean_calls _ _ l0 _ (Kd.C_below HR0.out (by repeat (first | exact ST6.out.below | refine pw_below_drewN ?_ _))) HC0.out HL0.out).mono ?_; rintro e w7 ⟨rfl, hb7⟩; have ST7 : Aside0 (St1 w 3 A B M v1 l0 g l0.length cap w7 L) := ⟨(by repeat (first | exact ST6.out | refine St1.drewN ?_ _) : St1 w 3 A B M v1 l0 g l0.length cap _ L).step hb7⟩; clear hb7) | (go_at_call 131; refine (size_calls _ _).mono ?_; rintro e w8 ⟨rfl, n8, rfl⟩))
                      go_ret2
                      go_light
                      exact ⟨_, rfl, Kd.R_lower (by repeat (first | exact ST6.out.row | refine Kd.R_drewN ?_ _)) (by omega), by repeat (first | exact ST6.out.below | refine pw_below_drewN ?_ _)⟩
                  · skip
                    have HN := HN.out
                    rw [if_pos (by simp; exact .inr hq2)] at HN
                    obtain ⟨rfl, rfl⟩ : l0 = r1 ∧ 4 = r2 := by simpa using HN
                    clear HN
                    go_wp2_with (first | (go_at_call 130; refine (burn_calls _ _ _ _ _ _).mono ?_; rintro e w5 ⟨rfl, hb5⟩; have ST5 : Aside0 (St1 w 3 A B M v1 l0 g l0.length cap w5 L) := ⟨ST4.out.step hb5⟩; clear hb5) | (go_at_call 130; refine (burn_calls _ _ _ _ _ _).mono ?_; rintro e w4 ⟨rfl, hb4⟩; have ST4 : Aside0 (St1 w 3 A B M v1 l0 g l0.length cap w4 L) := ⟨STL.out.step hb4⟩; clear hb4; obtain ⟨hx0, hx1, hx2, hx3⟩ := ST4.out.cells; obtain ⟨hz0, hz1, hz2, hz3, hz4, hfz⟩ := R_at116 ST4.out.row B hB0 hB1; clear hfz))
                    go_ret2
                    go_light
                    exact ⟨v1, rfl, Kd.R_mono (Kd.R_lower ST5.out.was (by omega)) (fun _ _ => trivial), ST5.out.below⟩
                · skip
                  have HN := HN.out
                  rw [if_pos (by simp; exact .inl hq1)] at HN
                  obtain ⟨rfl, rfl⟩ : l0 = r1 ∧ 4 = r2 := by simpa using HN
                  clear HN
                  go_wp2_with (first | (go_at_call 130; refine (burn_calls _ _ _ _ _ _).mono ?_; rintro e w4 ⟨rfl, hb4⟩; have ST4 : Aside0 (St1 w 3 A B M v1 l0 g l0.length cap w4 L) := ⟨STL.out.step hb4⟩; clear hb4; obtain ⟨hx0, hx1, hx2, hx3⟩ := ST4.out.cells; obtain ⟨hz0, hz1, hz2, hz3, hz4, hfz⟩ := R_at116 ST4.out.row B hB0 hB1; clear hfz))
                  go_ret2
                  go_light
                  exact ⟨v1, rfl, Kd.R_mono (Kd.R_lower ST4.out.was (by omega)) (fun _ _ => trivial), ST4.out.below⟩
          · as_aux_lemma =>
            have HN := HN1.out
            have hm : mostOf 4 = 100 := by decide
            rw [hm]
            clear hm
            rw [show isFrom 4 = false from rfl, show isTo 4 = false from rfl, show toAt 4 A B = B from rfl] at HN
            obtain ⟨hx0, hx1, hx2, hx3⟩ := ST.out.cells
            obtain ⟨hy0, hy1, hy2, hy3, hy4, hfy⟩ := R_at116 ST.out.row A hA0 hA1
            have hfy0 := hfy 0
            have hfy3 := hfy 3
            have hfy4 := hfy 4
            simp only [Nat.add_zero] at hfy0
            clear hfy
            rw [if_neg (by simp)] at HN
            rw [if_neg (by simp)] at HN
            rw [if_neg (by simp)] at HN
            have HN := Aside0.mk HN
            go_wp2
            go_region
            go_wp2
            go_region
            go_wp2
            go_region
            go_wp2
            go_region
            go_upto_region 31 with (fail)
            go_name_world w3 hw3
            have STL0 : Aside0 (St1 w 4 A B M v1 l0 g l0.length cap w3 (changed l0 4 A B M)) := ⟨by rw [← hw3]; exact (by repeat (first | exact St1.gas ST.out A M hA0 hA1 | refine St1.drewN ?_ _ | refine St1.drew ?_))⟩
            clear hw3
            (try clear hx0 hx1 hx2 hx3); (try clear hy0 hy1 hy2 hy3 hy4 hfy0 hfy3 hfy4); (try clear hz0 hz1 hz2 hz3 hz4 hfz0 hfz3 hfz4)
            generalize hL : changed l0 4 A B M = L at HN STL0
            clear hL
            have STL := STL0
            clear STL0 ST
            obtain ⟨hx0, hx1, hx2, hx3⟩ := STL.out.cells
            obtain ⟨hy0, hy1, hy2, hy3, hy4, hfy⟩ := R_at116 STL.out.row A hA0 hA1
            have hfy0 := hfy 0
            have hfy3 := hfy 3
            have hfy4 := hfy 4
            simp only [Nat.add_zero] at hfy0
            clear hfy
            cases hq1 : burnB ⟨(rd_T116 L A).f0, (rd_T116 L A).f1, (rd_T116 L A).f2, (rd_T116 L A).f3, (rd_T116 L A).f4⟩
            · skip
              go_upto_region 33 with (first | (go_at_call 130; refine (burn_calls _ _ _ _ _ _).mono ?_; rintro e w4 ⟨rfl, hb4⟩; have ST4 : Aside0 (St1 w 4 A B M v1 l0 g l0.length cap w4 L) := ⟨STL.out.step hb4⟩; clear hb4; obtain ⟨hx0, hx1, hx2, hx3⟩ := ST4.out.cells))
              have HN := HN.out
              rw [if_neg (by simp; first | exact hq1 | exact ⟨hq1, hq2⟩)] at HN
              by_cases hs1 : sizeV (leanV 0 L) > lean
              · have hs1b : decide (lean < sizeV (leanV 0 L)) = true := decide_eq_true hs1
                by_cases hs2 : sizeV (leanV 0 L) > sizeV (leanV 0 l0)
                · have hs2b : decide (sizeV (leanV 0 l0) < sizeV (leanV 0 L)) = true := decide_eq_true hs2
                  rw [if_pos ⟨hs1, hs2⟩] at HN
                  obtain ⟨rfl, rfl⟩ : l0 = r1 ∧ 5 = r2 := by simpa using HN
                  clear HN hs1 hs2
                  go_wp2_with (first | (go_at_call_of 132 (Value.slice (some ⟨g, 0, none⟩) l0.length cap); refine (lean_calls2 _ _ _ L _ (Kd.R_reads' ST4.out.row).2.2 (Kd.R_reads' ST4.out.row).1 (Kd.R_reads' ST4.out.row).2.1 HL0.out).mono ?_; rintro e w6 ⟨rfl, hb6⟩; have ST6 : Aside0 (St1 w 4 A B M v1 l0 g l0.length cap w6 L) := ⟨ST4.out.step hb6⟩; clear hb6) | (go_at_call 132; refine (lean_calls _ _ l0 _ (Kd.C_below HR0.out (by repeat (first | exact ST6.out.below | refine pw_below_drewN ?_ _))) HC0.out HL0.out).mono ?_; rintro e w7 ⟨rfl, hb7⟩; have ST7 : Aside0 (St1 w 4 A B M v1 l0 g l0.length cap w7 L) := ⟨(by repeat (first | exact ST6.out | refine St1.drewN ?_ _) : St1 w 4 A B M v1 l0 g l0.length cap _ L).step hb7⟩; clear hb7) | (go_at_call 131; refine (size_calls _ _).mono ?_; rintro e w8 ⟨rfl, n8, rfl⟩))
                  go_ret2
                  go_light
                  exact ⟨v1, rfl, Kd.R_mono (Kd.R_lower (by repeat (first | exact ST7.out.was | refine Kd.R_drewN ?_ _)) (by omega)) (fun _ _ => trivial), by repeat (first | exact ST7.out.below | refine pw_below_drewN ?_ _)⟩
                · have hs2b : decide (sizeV (leanV 0 l0) < sizeV (leanV 0 L)) = false := decide_eq_false hs2
                  rw [if_neg (by intro h; exact hs2 h.2)] at HN
                  obtain ⟨rfl, rfl⟩ : L = r1 ∧ 0 = r2 := by simpa using HN
                  clear HN hs1 hs2
                  go_wp2_with (first | (go_at_call_of 132 (Value.slice (some ⟨g, 0, none⟩) l0.length cap); refine (lean_calls2 _ _ _ L _ (Kd.R_reads' ST4.out.row).2.2 (Kd.R_reads' ST4.out.row).1 (Kd.R_reads' ST4.out.row).2.1 HL0.out).mono ?_; rintro e w6 ⟨rfl, hb6⟩; have ST6 : Aside0 (St1 w 4 A B M v1 l0 g l0.length cap w6 L) := ⟨ST4.out.step hb6⟩; clear hb6) | (go_at_call 132; refine (lean_calls _ _ l0 _ (Kd.C_below HR0.out (by repeat (first | exact ST6.out.below | refine pw_below_drewN ?_ _))) HC0.out HL0.out).mono ?_; rintro e w7 ⟨rfl, hb7⟩; have ST7 : Aside0 (St1 w 4 A B M v1 l0 g l0.length cap w7 L) := ⟨(by repeat (first | exact ST6.out | refine St1.drewN ?_ _) : St1 w 4 A B M v1 l0 g l0.length cap _ L).step hb7⟩; clear hb7) | (go_at_call 131; refine (size_calls _ _).mono ?_; rintro e w8 ⟨rfl, n8, rfl⟩))
                  go_ret2
                  go_light
                  exact ⟨_, rfl, Kd.R_lower (by repeat (first | exact ST7.out.row | refine Kd.R_drewN ?_ _)) (by omega), by repeat (first | exact ST7.out.below | refine pw_below_drewN ?_ _)⟩
              · have hs1b : decide (lean < sizeV (leanV 0 L)) = false := decide_eq_false hs1
                rw [if_neg (by intro h; exact hs1 h.1)] at HN
                obtain ⟨rfl, rfl⟩ : L = r1 ∧ 0 = r2 := by simpa using HN
                clear HN hs1
                go_wp2_with (first | (go_at_call_of 132 (Value.slice (some ⟨g, 0, none⟩) l0.length cap); refine (lean_calls2 _ _ _ L _ (Kd.R_reads' ST4.out.row).2.2 (Kd.R_reads' ST4.out.row).1 (Kd.R_reads' ST4.out.row).2.1 HL0.out).mono ?_; rintro e w6 ⟨rfl, hb6⟩; have ST6 : Aside0 (St1 w 4 A B M v1 l0 g l0.length cap w6 L) := ⟨ST4.out.step hb6⟩; clear hb6) | (go_at_call 132; refine (lean_calls _ _ l0 _ (Kd.C_below HR0.out (by repeat (first | exact ST6.out.below | refine pw_below_drewN ?_ _))) HC0.out HL0.out).mono ?_; rintro e w7 ⟨rfl, hb7⟩; have ST7 : Aside0 (St1 w 4 A B M v1 l0 g l0.length cap w7 L) := ⟨(by repeat (first | exact ST6.out | refine St1.drewN ?_ _) : St1 w 4 A B M v1 l0 g l0.length cap _ L).step hb7⟩; clear hb7) | (go_at_call 131; refine (size_calls _ _).mono ?_; rintro e w8 ⟨rfl, n8, rfl⟩))
                go_ret2
                go_light
                exact ⟨_, rfl, Kd.R_lower (by repeat (first | exact ST6.out.row | refine Kd.R_drewN ?_ _)) (by omega), by repeat (first | exact ST6.out.below | refine pw_below_drewN ?_ _)⟩
            · skip
              have HN := HN.out
              rw [if_pos (by simp; exact hq1)] at HN
              obtain ⟨rfl, rfl⟩ : l0 = r1 ∧ 4 = r2 := by simpa using HN
              clear HN
              go_wp2_with (first | (go_at_call 130; refine (burn_calls _ _ _ _ _ _).mono ?_; rintro e w4 ⟨rfl, hb4⟩; have ST4 : Aside0 (St1 w 4 A B M v1 l0 g l0.length cap w4 L) := ⟨STL.out.step hb4⟩; clear hb4; obtain ⟨hx0, hx1, hx2, hx3⟩ := ST4.out.cells))
              go_ret2
              go_light
              exact ⟨v1, rfl, Kd.R_mono (Kd.R_lower ST4.out.was (by omega)) (fun _ _ => trivial), ST4.out.below⟩
          · as_aux_lemma =>
            have HN := HN1.out
            have hm : mostOf 5 = 100 := by decide
            rw [hm]
            clear hm
            rw [show isFrom 5 = false from rfl, show isTo 5 = false from rfl, show toAt 5 A B = B from rfl] at HN
            obtain ⟨hx0, hx1, hx2, hx3⟩ := ST.out.cells
            obtain ⟨hy0, hy1, hy2, hy3, hy4, hfy⟩ := R_at116 ST.out.row A hA0 hA1
            have hfy0 := hfy 0
            have hfy3 := hfy 3
            have hfy4 := hfy 4
            simp only [Nat.add_zero] at hfy0
            clear hfy
            rw [if_neg (by simp)] at HN
            rw [if_neg (by simp)] at HN
            rw [if_neg (by simp)] at HN
            have HN := Aside0.mk HN
            go_wp2
            go_region
            go_wp2
            go_region
            go_wp2
            go_region
            go_wp2
            go_region
            go_upto_region 30 with (fail)
            go_name_world w9 hw9
            have ST9 : Aside0 (St1 w 5 A B M v1 l0 g l0.length cap w9 (l0.set A.toNat (gasT (rd_T116 l0 A) M))) := ⟨by rw [← hw9]; exact (by repeat (first | exact St1.gas ST.out A M hA0 hA1 | refine St1.drewN ?_ _ | refine St1.drew ?_))⟩
            clear hw9 hx0 hx1 hx2 hx3 hy0 hy1 hy2 hy3 hy4 hfy0 hfy3 hfy4
            obtain ⟨hx0, hx1, hx2, hx3⟩ := ST9.out.cells
            obtain ⟨hy0, hy1, hy2, hy3, hy4, hfy⟩ := R_at116 ST9.out.row A hA0 hA1
            have hfy0 := hfy 0
            have hfy3 := hfy 3
            have hfy4 := hfy 4
            simp only [Nat.add_zero] at hfy0
            clear hfy
            go_region
            go_upto_region 31 with (fail)
            go_name_world w3 hw3
            have STL0 : Aside0 (St1 w 5 A B M v1 l0 g l0.length cap w3 (changed l0 5 A B M)) := ⟨by rw [← hw3]; exact (by repeat (first | exact St1.vent ST9.out A M hA0 hA1 | refine St1.drewN ?_ _ | refine St1.drew ?_))⟩
            clear hw3
            (try clear hx0 hx1 hx2 hx3); (try clear hy0 hy1 hy2 hy3 hy4 hfy0 hfy3 hfy4); (try clear hz0 hz1 hz2 hz3 hz4 hfz0 hfz3 hfz4)
            generalize hL : changed l0 5 A B M = L at HN STL0
            clear hL
            have STL := STL0
            clear STL0 ST ST9
            obtain ⟨hx0, hx1, hx2, hx3⟩ := STL.out.cells
            obtain ⟨hy0, hy1, hy2, hy3, hy4, hfy⟩ := R_at116 STL.out.row A hA0 hA1
            have hfy0 := hfy 0
            have hfy3 := hfy 3
            have hfy4 := hfy 4
            simp only [Nat.add_zero] at hfy0
            clear hfy
            cases hq1 : burnB ⟨(rd_T116 L A).f0, (rd_T116 L A).f1, (rd_T116 L A).f2, (rd_T116 L A).f3, (rd_T116 L A).f4⟩
            · skip
              go_upto_region 33 with (first | (go_at_call 130; refine (burn_calls _ _ _ _ _ _).mono ?_; rintro e w4 ⟨rfl, hb4⟩; have ST4 : Aside0 (St1 w 5 A B M v1 l0 g l0.length cap w4 L) := ⟨STL.out.step hb4⟩; clear hb4; obtain ⟨hx0, hx1, hx2, hx3⟩ := ST4.out.cells))
              have HN := HN.out
              rw [if_neg (by simp; first | exact hq1 | exact ⟨hq1, hq2⟩)] at HN
              by_cases hs1 : sizeV (leanV 0 L) > lean
              · have hs1b : decide (lean < sizeV (leanV 0 L)) = true := decide_eq_true hs1
                by_cases hs2 : sizeV (leanV 0 L) > sizeV (leanV 0 l0)
                · have hs2b : decide (sizeV (leanV 0 l0) < sizeV (leanV 0 L)) = true := decide_eq_true hs2
                  rw [if_pos ⟨hs1, hs2⟩] at HN
                  obtain ⟨rfl, rfl⟩ : l0 = r1 ∧ 5 = r2 := by simpa using HN
                  clear HN hs1 hs2
                  go_wp2_with (first | (go_at_call_of 132 (Value.slice (some ⟨g, 0, none⟩) l0.length cap); refine (lean_calls2 _ _ _ L _ (Kd.R_reads' ST4.out.row).2.2 (Kd.R_reads' ST4.out.row).1 (Kd.R_reads' ST4.out.row).2.1 HL0.out).mono ?_; rintro e w6 ⟨rfl, hb6⟩; have ST6 : Aside0 (St1 w 5 A B M v1 l0 g l0.length cap w6 L) := ⟨ST4.out.step hb6⟩; clear hb6) | (go_at_call 132; refine (lean_calls _ _ l0 _ (Kd.C_below HR0.out (by repeat (first | exact ST6.out.below | refine pw_below_drewN ?_ _))) HC0.out HL0.out).mono ?_; rintro e w7 ⟨rfl, hb7⟩; have ST7 : Aside0 (St1 w 5 A B M v1 l0 g l0.length cap w7 L) := ⟨(by repeat (first | exact ST6.out | refine St1.drewN ?_ _) : St1 w 5 A B M v1 l0 g l0.length cap _ L).step hb7⟩; clear hb7) | (go_at_call 131; refine (size_calls _ _).mono ?_; rintro e w8 ⟨rfl, n8, rfl⟩))
                  go_ret2
                  go_light
                  exact ⟨v1, rfl, Kd.R_mono (Kd.R_lower (by repeat (first | exact ST7.out.was | refine Kd.R_drewN ?_ _)) (by omega)) (fun _ _ => trivial), by repeat (first | exact ST7.out.below | refine pw_below_drewN ?_ _)⟩
                · have hs2b : decide (sizeV (leanV 0 l0) < sizeV (leanV 0 L)) = false := decide_eq_false hs2
                  rw [if_neg (by intro h; exact hs2 h.2)] at HN
                  obtain ⟨rfl, rfl⟩ : L = r1 ∧ 0 = r2 := by simpa using HN
                  clear HN hs1 hs2
                  go_wp2_with (first | (go_at_call_of 132 (Value.slice (some ⟨g, 0, none⟩) l0.length cap); refine (lean_calls2 _ _ _ L _ (Kd.R_reads' ST4.out.row).2.2 (Kd.R_reads' ST4.out.row).1 (Kd.R_reads' ST4.out.row).2.1 HL0.out).mono ?_; rintro e w6 ⟨rfl, hb6⟩; have ST6 : Aside0 (St1 w 5 A B M v1 l0 g l0.length cap w6 L) := ⟨ST4.out.step hb6⟩; clear hb6) | (go_at_call 132; refine (lean_calls _ _ l0 _ (Kd.C_below HR0.out (by repeat (first | exact ST6.out.below | refine pw_below_drewN ?_ _))) HC0.out HL0.out).mono ?_; rintro e w7 ⟨rfl, hb7⟩; have ST7 : Aside0 (St1 w 5 A B M v1 l0 g l0.length cap w7 L) := ⟨(by repeat (first | exact ST6.out | refine St1.drewN ?_ _) : St1 w 5 A B M v1 l0 g l0.length cap _ L).step hb7⟩; clear hb7) | (go_at_call 131; refine (size_calls _ _).mono ?_; rintro e w8 ⟨rfl, n8, rfl⟩))
                  go_ret2
                  go_light
                  exact ⟨_, rfl, Kd.R_lower (by repeat (first | exact ST7.out.row | refine Kd.R_drewN ?_ _)) (by omega), by repeat (first | exact ST7.out.below | refine pw_below_drewN ?_ _)⟩
              · have hs1b : decide (lean < sizeV (leanV 0 L)) = false := decide_eq_false hs1
                rw [if_neg (by intro h; exact hs1 h.1)] at HN
                obtain ⟨rfl, rfl⟩ : L = r1 ∧ 0 = r2 := by simpa using HN
                clear HN hs1
                go_wp2_with (first | (go_at_call_of 132 (Value.slice (some ⟨g, 0, none⟩) l0.length cap); refine (lean_calls2 _ _ _ L _ (Kd.R_reads' ST4.out.row).2.2 (Kd.R_reads' ST4.out.row).1 (Kd.R_reads' ST4.out.row).2.1 HL0.out).mono ?_; rintro e w6 ⟨rfl, hb6⟩; have ST6 : Aside0 (St1 w 5 A B M v1 l0 g l0.length cap w6 L) := ⟨ST4.out.step hb6⟩; clear hb6) | (go_at_call 132; refine (lean_calls _ _ l0 _ (Kd.C_below HR0.out (by repeat (first | exact ST6.out.below | refine pw_below_drewN ?_ _))) HC0.out HL0.out).mono ?_; rintro e w7 ⟨rfl, hb7⟩; have ST7 : Aside0 (St1 w 5 A B M v1 l0 g l0.length cap w7 L) := ⟨(by repeat (first | exact ST6.out | refine St1.drewN ?_ _) : St1 w 5 A B M v1 l0 g l0.length cap _ L).step hb7⟩; clear hb7) | (go_at_call 131; refine (size_calls _ _).mono ?_; rintro e w8 ⟨rfl, n8, rfl⟩))
                go_ret2
                go_light
                exact ⟨_, rfl, Kd.R_lower (by repeat (first | exact ST6.out.row | refine Kd.R_drewN ?_ _)) (by omega), by repeat (first | exact ST6.out.below | refine pw_below_drewN ?_ _)⟩
            · skip
              have HN := HN.out
              rw [if_pos (by simp; exact hq1)] at HN
              obtain ⟨rfl, rfl⟩ : l0 = r1 ∧ 4 = r2 := by simpa using HN
              clear HN
              go_wp2_with (first | (go_at_call 130; refine (burn_calls _ _ _ _ _ _).mono ?_; rintro e w4 ⟨rfl, hb4⟩; have ST4 : Aside0 (St1 w 5 A B M v1 l0 g l0.length cap w4 L) := ⟨STL.out.step hb4⟩; clear hb4; obtain ⟨hx0, hx1, hx2, hx3⟩ := ST4.out.cells))
              go_ret2
              go_light
              exact ⟨v1, rfl, Kd.R_mono (Kd.R_lower ST4.out.was (by omega)) (fun _ _ => trivial), ST4.out.below⟩
        · have HN := H.out
          rw [if_pos hb] at HN
          obtain ⟨rfl, rfl⟩ : l0 = r1 ∧ 1 = r2 := by simpa using HN
          clear HN
          go_wp2
          go_ret2
          exact ⟨v1, rfl, Kd.R_lower ST1.out.was (by omega), ST1.out.below⟩
end Go.Proofs.Ytmdennlkgakfnaa.C

