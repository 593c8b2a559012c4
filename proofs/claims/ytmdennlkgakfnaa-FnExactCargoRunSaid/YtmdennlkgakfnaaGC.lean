import Derived.Test.YtmdennlkgakfnaaGB
import Derived.Test.YtmdennlkgakfnaaGA
import Derived.RegionTactic
import Derived.ChangeAlike

import Derived.Deep.Light
namespace Go.Proofs.Ytmdennlkgakfnaa.C
open Go.RowKit Go.Proofs.YtmdennlkgakfnaaW.PrintWords Go.Proofs.YtmdennlkgakfnaaW.PrintLast Go.Proofs.YtmdennlkgakfnaaW.PrintMore
set_option linter.unusedVariables false
set_option linter.unusedSimpArgs false

/-! Elements of type 116 in a row of one's own -/
theorem R_at116 {W : World} {base g n cap : Nat} {ok : Nat → Prop} {l : List S116} (h : Kd.R k116 116 W base ok (.slice (some ⟨g, 0, none⟩) n cap) l) (i : Int) (h0 : 0 ≤ i) (h1 : i < n) :
    W.cell? ⟨g, i.toNat * 5, none⟩ = some (.int .i64 (rd_T116 l i).f0) ∧ W.cell? ⟨g, i.toNat * 5 + 1, none⟩ = some (.int .i64 (rd_T116 l i).f1) ∧ W.cell? ⟨g, i.toNat * 5 + 2, none⟩ = some (.int .i64 (rd_T116 l i).f2) ∧ W.cell? ⟨g, i.toNat * 5 + 3, none⟩ = some (.int .i64 (rd_T116 l i).f3) ∧ W.cell? ⟨g, i.toNat * 5 + 4, none⟩ = some (.int .i64 (rd_T116 l i).f4) ∧ (∀ j, W.frozen? ⟨g, i.toNat * 5 + j, none⟩ = false) := by
  obtain ⟨c, hcl, hM, hcc, hfr⟩ := Kd.R_elem h z116 i h0 h1
  obtain rfl := k116_openM hM
  exact ⟨hcc 0 _ rfl, hcc 1 _ rfl, hcc 2 _ rfl, hcc 3 _ rfl, hcc 4 _ rfl, hfr⟩
theorem R_put116_0 {W : World} {base g n cap : Nat} {ok : Nat → Prop} {l : List S116} (h : Kd.R k116 116 W base ok (.slice (some ⟨g, 0, none⟩) n cap) l) (i : Int) (h0 : 0 ≤ i) (h1 : i < n) (v : Int) :
    Kd.R k116 116 (W.setCell ⟨g, i.toNat * 5, none⟩ (.int .i64 v)) base ok (.slice (some ⟨g, 0, none⟩) n cap) (l.set i.toNat (⟨v, (rd_T116 l i).f1, (rd_T116 l i).f2, (rd_T116 l i).f3, (rd_T116 l i).f4⟩ : S116)) ∧ W.grownBy (W.setCell ⟨g, i.toNat * 5, none⟩ (.int .i64 v)) (some g) := by
  obtain ⟨c, hcl, hM, hcc, hfr⟩ := Kd.R_elem h z116 i h0 h1
  obtain rfl := k116_openM hM
  exact Kd.R_seg h i h0 h1 (seg := [.int .i64 v]) (j := 0) hcl hcc (show 1 ≤ 5 from by decide) (x' := (⟨v, (rd_T116 l i).f1, (rd_T116 l i).f2, (rd_T116 l i).f3, (rd_T116 l i).f4⟩ : S116)) (k116_mkM _ _ _ (⟨v, (rd_T116 l i).f1, (rd_T116 l i).f2, (rd_T116 l i).f3, (rd_T116 l i).f4⟩ : S116)) (fun _ hk => hk)
theorem R_put116_1 {W : World} {base g n cap : Nat} {ok : Nat → Prop} {l : List S116} (h : Kd.R k116 116 W base ok (.slice (some ⟨g, 0, none⟩) n cap) l) (i : Int) (h0 : 0 ≤ i) (h1 : i < n) (v : Int) :
    Kd.R k116 116 (W.setCell ⟨g, i.toNat * 5 + 1, none⟩ (.int .i64 v)) base ok (.slice (some ⟨g, 0, none⟩) n cap) (l.set i.toNat (⟨(rd_T116 l i).f0, v, (rd_T116 l i).f2, (rd_T116 l i).f3, (rd_T116 l i).f4⟩ : S116)) ∧ W.grownBy (W.setCell ⟨g, i.toNat * 5 + 1, none⟩ (.int .i64 v)) (some g) := by
  obtain ⟨c, hcl, hM, hcc, hfr⟩ := Kd.R_elem h z116 i h0 h1
  obtain rfl := k116_openM hM
  exact Kd.R_seg h i h0 h1 (seg := [.int .i64 v]) (j := 1) hcl hcc (show 2 ≤ 5 from by decide) (x' := (⟨(rd_T116 l i).f0, v, (rd_T116 l i).f2, (rd_T116 l i).f3, (rd_T116 l i).f4⟩ : S116)) (k116_mkM _ _ _ (⟨(rd_T116 l i).f0, v, (rd_T116 l i).f2, (rd_T116 l i).f3, (rd_T116 l i).f4⟩ : S116)) (fun _ hk => hk)
theorem R_put116_2 {W : World} {base g n cap : Nat} {ok : Nat → Prop} {l : List S116} (h : Kd.R k116 116 W base ok (.slice (some ⟨g, 0, none⟩) n cap) l) (i : Int) (h0 : 0 ≤ i) (h1 : i < n) (v : Int) :
    Kd.R k116 116 (W.setCell ⟨g, i.toNat * 5 + 2, none⟩ (.int .i64 v)) base ok (.slice (some ⟨g, 0, none⟩) n cap) (l.set i.toNat (⟨(rd_T116 l i).f0, (rd_T116 l i).f1, v, (rd_T116 l i).f3, (rd_T116 l i).f4⟩ : S116)) ∧ W.grownBy (W.setCell ⟨g, i.toNat * 5 + 2, none⟩ (.int .i64 v)) (some g) := by
  obtain ⟨c, hcl, hM, hcc, hfr⟩ := Kd.R_elem h z116 i h0 h1
  obtain rfl := k116_openM hM
  exact Kd.R_seg h i h0 h1 (seg := [.int .i64 v]) (j := 2) hcl hcc (show 3 ≤ 5 from by decide) (x' := (⟨(rd_T116 l i).f0, (rd_T116 l i).f1, v, (rd_T116 l i).f3, (rd_T116 l i).f4⟩ : S116)) (k116_mkM _ _ _ (⟨(rd_T116 l i).f0, (rd_T116 l i).f1, v, (rd_T116 l i).f3, (rd_T116 l i).f4⟩ : S116)) (fun _ hk => hk)
theorem R_put116_3 {W : World} {base g n cap : Nat} {ok : Nat → Prop} {l : List S116} (h : Kd.R k116 116 W base ok (.slice (some ⟨g, 0, none⟩) n cap) l) (i : Int) (h0 : 0 ≤ i) (h1 : i < n) (v : Int) :
    Kd.R k116 116 (W.setCell ⟨g, i.toNat * 5 + 3, none⟩ (.int .i64 v)) base ok (.slice (some ⟨g, 0, none⟩) n cap) (l.set i.toNat (⟨(rd_T116 l i).f0, (rd_T116 l i).f1, (rd_T116 l i).f2, v, (rd_T116 l i).f4⟩ : S116)) ∧ W.grownBy (W.setCell ⟨g, i.toNat * 5 + 3, none⟩ (.int .i64 v)) (some g) := by
  obtain ⟨c, hcl, hM, hcc, hfr⟩ := Kd.R_elem h z116 i h0 h1
  obtain rfl := k116_openM hM
  exact Kd.R_seg h i h0 h1 (seg := [.int .i64 v]) (j := 3) hcl hcc (show 4 ≤ 5 from by decide) (x' := (⟨(rd_T116 l i).f0, (rd_T116 l i).f1, (rd_T116 l i).f2, v, (rd_T116 l i).f4⟩ : S116)) (k116_mkM _ _ _ (⟨(rd_T116 l i).f0, (rd_T116 l i).f1, (rd_T116 l i).f2, v, (rd_T116 l i).f4⟩ : S116)) (fun _ hk => hk)
theorem R_put116_4 {W : World} {base g n cap : Nat} {ok : Nat → Prop} {l : List S116} (h : Kd.R k116 116 W base ok (.slice (some ⟨g, 0, none⟩) n cap) l) (i : Int) (h0 : 0 ≤ i) (h1 : i < n) (v : Int) :
    Kd.R k116 116 (W.setCell ⟨g, i.toNat * 5 + 4, none⟩ (.int .i64 v)) base ok (.slice (some ⟨g, 0, none⟩) n cap) (l.set i.toNat (⟨(rd_T116 l i).f0, (rd_T116 l i).f1, (rd_T116 l i).f2, (rd_T116 l i).f3, v⟩ : S116)) ∧ W.grownBy (W.setCell ⟨g, i.toNat * 5 + 4, none⟩ (.int .i64 v)) (some g) := by
  obtain ⟨c, hcl, hM, hcc, hfr⟩ := Kd.R_elem h z116 i h0 h1
  obtain rfl := k116_openM hM
  exact Kd.R_seg h i h0 h1 (seg := [.int .i64 v]) (j := 4) hcl hcc (show 5 ≤ 5 from by decide) (x' := (⟨(rd_T116 l i).f0, (rd_T116 l i).f1, (rd_T116 l i).f2, (rd_T116 l i).f3, v⟩ : S116)) (k116_mkM _ _ _ (⟨(rd_T116 l i).f0, (rd_T116 l i).f1, (rd_T116 l i).f2, (rd_T116 l i).f3, v⟩ : S116)) (fun _ hk => hk)

def outT (x : S116) (m : Int) : S116 :=
  let h := wrap64 (x.f0 - m)
  let r := wrap64 (x.f1 - h)
  ⟨h, x.f1, x.f2, wrap64 (Int.tdiv (wrap64 (x.f3 * wrap64 (r - m))) r), wrap64 (Int.tdiv (wrap64 (x.f4 * wrap64 (r - m))) r)⟩
theorem rd_set116 (l : List S116) (i : Int) (x : S116) (h : i.toNat < l.length) : rd_T116 (l.set i.toNat x) i = x := by simp [rd_T116, h]
set_option maxHeartbeats 2000000 in
set_option maxRecDepth 100000 in
theorem out_at (base g n cap : Nat) (ok : Nat → Prop) (l : List S116) (i m : Int) (w : World) (HO : Kd.R k116 116 w base ok (.slice (some ⟨g, 0, none⟩) n cap) l) (h0 : 0 ≤ i) (h1 : i < n) (hr : ¬ wrap64 ((rd_T116 l i).f1 - wrap64 ((rd_T116 l i).f0 - m)) = 0) :
    Calls Try.prog 129 #[.pointer (some ⟨g, i.toNat * 5, none⟩), .int .i64 m] w fun e w' => e = .returned (.tuple #[]) ∧ Kd.R k116 116 w' base ok (.slice (some ⟨g, 0, none⟩) n cap) (l.set i.toNat (outT (rd_T116 l i) m)) ∧ w.grownBy w' (some g) := by
  have hil : i.toNat < l.length := by have := (Kd.R_reads' HO).1; omega
  obtain ⟨hx0, hx1, hx2, hx3, hx4, hf⟩ := R_at116 HO i h0 h1
  have hf0 := hf 0
  have hf3 := hf 3
  have hf4 := hf 4
  clear hf
  simp only [Nat.add_zero] at hf0
  have FIN : Aside0 (∀ (v0 v3 v4 : Int) (nq : Nat), (outT (rd_T116 l i) m) = ⟨v0, (rd_T116 l i).f1, (rd_T116 l i).f2, v3, v4⟩ → Kd.R k116 116 (((((w.setCell ⟨g, i.toNat * 5, none⟩ (.int .i64 v0)).setCell ⟨g, i.toNat * 5 + 3, none⟩ (.int .i64 v3)).setCell ⟨g, i.toNat * 5 + 4, none⟩ (.int .i64 v4))).drewN nq) base ok (.slice (some ⟨g, 0, none⟩) n cap) (l.set i.toNat (outT (rd_T116 l i) m)) ∧ w.grownBy (((((w.setCell ⟨g, i.toNat * 5, none⟩ (.int .i64 v0)).setCell ⟨g, i.toNat * 5 + 3, none⟩ (.int .i64 v3)).setCell ⟨g, i.toNat * 5 + 4, none⟩ (.int .i64 v4))).drewN nq) (some g)) := by
    refine ⟨fun v0 v3 v4 nq he => ?_⟩
    have H0 := R_put116_0 HO i h0 h1 v0
    have H3 := R_put116_3 H0.1 i h0 h1 v3
    have H4 := R_put116_4 H3.1 i h0 h1 v4
    rw [rd_set116 l i _ hil] at H3 H4
    rw [rd_set116 _ i _ (by simpa using hil)] at H4
    simp only [List.set_set] at H3 H4
    exact ⟨Kd.R_drewN (by rw [he]; exact H4.1) nq, by
      have := (H0.2.trans H3.2).trans H4.2
      exact ⟨this.os, this.tape, this.output, this.size, this.block⟩⟩
  clear HO h0 h1 hil
  have c3 := eq_false hr
  have c3b0 : ((wrap64 ((rd_T116 l i).f1 - (wrap64 ((rd_T116 l i).f0 - m)))) == 0) = false := beq_eq_false_iff_ne.mpr hr
  have c3b1 : ((wrap64 ((rd_T116 l i).f1 - (wrap64 ((rd_T116 l i).f0 - m)))) != 0) = true := bne_iff_ne.mpr hr
  clear hr
  go_enter Try.func129, Try.ntmps129
  go_wp2
  repeat (go_quiet (fail); try go_wp2)
  first | go_end0 | ((try simp only [Exit.inBlock, Exit.then]); refine bodyPost_ret (results_none rfl _ _ _) rfl ?_)
  refine ⟨by first | rfl | (simp; done), ?_⟩
  exact FIN.out _ _ _ _ rfl

/-! ### impl.CargoStep: function 86 -/
def inB (a b c : Int) : Bool := decide (b ≤ a ∧ a ≤ c)
theorem in_calls (a b c : Int) (w : World) : Calls Try.prog 74 #[.int .i64 a, .int .i64 b, .int .i64 c] w fun e w' => e = .returned (.bool (inB a b c)) ∧ ∃ n, w' = w.drewN n :=
  (impl_in.calls a b c _ w (impl_in.is a b c)).mono fun e w' ⟨he, ⟨hd⟩⟩ => ⟨he, hd⟩
def tanksB (l : List S116) : Bool := if 1 ≤ (l.length : Int) ∧ (l.length : Int) ≤ 12 then !(l.any tankBad) else false
theorem tanks_calls (A0 : Option Addr) (c0 : Nat) (l0 : List S116) (w : World) (hr0 : Kd.C k116 w A0 l0.length l0) (hc0 : l0.length ≤ c0) : Calls Try.prog 128 #[.slice A0 l0.length c0] w fun e w' => e = .returned (.bool (tanksB l0)) ∧ Below w.heap.size w w' :=
  impl_TanksOk.calls A0 c0 l0 _ w hr0 hc0 rfl
def k45 (K : Int) : Bool := K == 4 || K == 5
def mostOf (K : Int) : Int := if k45 K = true then 100 else 100000
def stepBad (l : List S116) (K A B M lean : Int) : Bool :=
  !tanksB l || !inB K 1 5 || !inB A 0 ((l.length : Int) - 1) || !inB M 1 (mostOf K) || (K == 3 && (!inB B 0 ((l.length : Int) - 1) || B == A)) || !inB lean 0 100000000
/-- The op's box and the copy that is not changed. -/
structure St0 (w0 : World) (K A B M : Int) (vw : Value) (l0 : List S116) (W : World) : Prop where
  box : W.heap[w0.heap.size]? = some (.cells #[.int .i64 K, .int .i64 A, .int .i64 B, .int .i64 M] 114 (0, 0))
  was : Kd.R k116 116 W (w0.heap.size + 1) (fun _ => True) vw l0
  below : Below w0.heap.size w0 W
theorem St0.drewN {w0 W : World} {K A B M : Int} {vw : Value} {l0 : List S116} (h : St0 w0 K A B M vw l0 W) (n : Nat) : St0 w0 K A B M vw l0 (W.drewN n) := ⟨h.box, Kd.R_drewN h.was n, pw_below_drewN h.below n⟩
theorem St0.step {w0 W W1 : World} {K A B M : Int} {vw : Value} {l0 : List S116} (h : St0 w0 K A B M vw l0 W) (hb : Below W.heap.size W W1) : St0 w0 K A B M vw l0 W1 := ⟨blk_below h.box hb, Kd.R_below h.was hb, below_step h.below hb⟩
theorem St0.cells {w0 W : World} {K A B M : Int} {vw : Value} {l0 : List S116} (h : St0 w0 K A B M vw l0 W) : W.cell? ⟨w0.heap.size, 0, none⟩ = some (.int .i64 K) ∧ W.cell? ⟨w0.heap.size, 1, none⟩ = some (.int .i64 A) ∧ W.cell? ⟨w0.heap.size, 2, none⟩ = some (.int .i64 B) ∧ W.cell? ⟨w0.heap.size, 3, none⟩ = some (.int .i64 M) :=
  ⟨blk_cell h.box 0, blk_cell h.box 1, blk_cell h.box 2, blk_cell h.box 3⟩


/-- The sum of what the tanks weigh to the side, as the code adds it. -/
def leanV : Int → List S116 → Int
  | s, [] => s
  | s, x :: xs => leanV (wrap64 (s + wrap64 (x.f0 * x.f2))) xs
theorem leanOf_is (l : List S116) (hl : l.length ≤ 3518437208882) (d : Nat) : ∀ (s i : Int), 0 ≤ i → i + d = (l.length : Int) → impl_leanOf.l0 (d + 1) s l (l.length : Int) i = some (leanV s (l.drop i.toNat)) := by
  induction d with
  | zero =>
    intro s i h0 h1
    have hd : l.drop i.toNat = [] := List.drop_eq_nil_of_le (by omega)
    simp only [impl_leanOf.l0]
    rw [if_neg (by omega), hd]; rfl
  | succ d ih =>
    intro s i h0 h1
    rw [impl_leanOf.l0]
    rw [if_pos (by omega), if_pos h0, if_pos (by omega)]
    have hw : wrap64 (i + 1) = i + 1 := by unfold wrap64; omega
    rw [hw, ih _ (i + 1) (by omega) (by omega)]
    have hlt : i.toNat < l.length := by omega
    have hd : l.drop i.toNat = l[i.toNat] :: l.drop (i.toNat + 1) := List.drop_eq_getElem_cons hlt
    rw [hd, show (i + 1).toNat = i.toNat + 1 by omega]
    simp only [leanV]
    congr 3
    simp [rd_T116, List.getD_eq_getElem?_getD, hlt]
theorem lean_calls (A0 : Option Addr) (c0 : Nat) (l0 : List S116) (w : World) (hr0 : Kd.C k116 w A0 l0.length l0) (hc0 : l0.length ≤ c0) (hl : l0.length ≤ 3518437208882) : Calls Try.prog 132 #[.slice A0 l0.length c0] w fun e w' => e = .returned (.int .i64 (leanV 0 l0)) ∧ Below w.heap.size w w' :=
  impl_leanOf.calls (l0.length + 1) A0 c0 l0 _ w hr0 hc0 (by have := leanOf_is l0 hl l0.length 0 0 (by omega) (by omega); simpa [impl_leanOf.f] using this)
def sizeV (a : Int) : Int := if a < 0 then wrap64 (-a) else a
theorem size_calls (a : Int) (w : World) : Calls Try.prog 131 #[.int .i64 a] w fun e w' => e = .returned (.int .i64 (sizeV a)) ∧ ∃ n, w' = w.drewN n :=
  (impl_size.calls a _ w (by unfold impl_size.f sizeV; split <;> rfl)).mono fun e w' ⟨he, ⟨hd⟩⟩ => ⟨he, hd⟩
def burnB (x : S116) : Bool := decide (x.f4 > 110) && inB x.f3 20 600
theorem burn_calls (a b c d e : Int) (w : World) : Calls Try.prog 130 #[.agg #[.int .i64 a, .int .i64 b, .int .i64 c, .int .i64 d, .int .i64 e]] w fun r w' => r = .returned (.bool (burnB ⟨a, b, c, d, e⟩)) ∧ Below w.heap.size w w' :=
  impl_CargoTank_mayBurn.calls a b c d e _ w (by unfold impl_CargoTank_mayBurn.f burnB; simp only [impl_in.is, Option.bind_some]; by_cases h : e > 110 <;> simp [h, inB])

/-- While the copy in block g is changed. -/
structure St1 (w0 : World) (K A B M : Int) (vw : Value) (l0 : List S116) (g n cap : Nat) (W : World) (l : List S116) : Prop where
  box : W.heap[w0.heap.size]? = some (.cells #[.int .i64 K, .int .i64 A, .int .i64 B, .int .i64 M] 114 (0, 0))
  was : Kd.R k116 116 W (w0.heap.size + 1) (fun k => k ≠ g) vw l0
  row : Kd.R k116 116 W (w0.heap.size + 1) (fun _ => True) (.slice (some ⟨g, 0, none⟩) n cap) l
  below : Below w0.heap.size w0 W
  ge : w0.heap.size + 1 ≤ g
section
variable {w0 W W1 : World} {K A B M : Int} {vw : Value} {l0 l l1 : List S116} {g n cap : Nat}
theorem St1.drewN (h : St1 w0 K A B M vw l0 g n cap W l) (m : Nat) : St1 w0 K A B M vw l0 g n cap (W.drewN m) l := ⟨h.box, Kd.R_drewN h.was m, Kd.R_drewN h.row m, pw_below_drewN h.below m, h.ge⟩
theorem St1.drew (h : St1 w0 K A B M vw l0 g n cap W l) : St1 w0 K A B M vw l0 g n cap W.drew l := ⟨h.box, Kd.R_drew h.was, Kd.R_drew h.row, below_drew1 h.below, h.ge⟩
theorem St1.step (h : St1 w0 K A B M vw l0 g n cap W l) (hb : Below W.heap.size W W1) : St1 w0 K A B M vw l0 g n cap W1 l := ⟨blk_below h.box hb, Kd.R_below h.was hb, Kd.R_below h.row hb, below_step h.below hb, h.ge⟩
theorem St1.put (h : St1 w0 K A B M vw l0 g n cap W l) (hr : Kd.R k116 116 W1 (w0.heap.size + 1) (fun _ => True) (.slice (some ⟨g, 0, none⟩) n cap) l1) (hg : W.grownBy W1 (some g)) : St1 w0 K A B M vw l0 g n cap W1 l1 := by
  have hge := h.ge
  exact ⟨blk_grown h.box hg (by simp; omega), Kd.R_grown h.was hg (fun k hk => by simpa using hk), hr, h.below.grown hg (below_size h.below) (fun k hk => by simp at hk; omega), h.ge⟩
theorem St1.cells (h : St1 w0 K A B M vw l0 g n cap W l) : W.cell? ⟨w0.heap.size, 0, none⟩ = some (.int .i64 K) ∧ W.cell? ⟨w0.heap.size, 1, none⟩ = some (.int .i64 A) ∧ W.cell? ⟨w0.heap.size, 2, none⟩ = some (.int .i64 B) ∧ W.cell? ⟨w0.heap.size, 3, none⟩ = some (.int .i64 M) :=
  ⟨blk_cell h.box 0, blk_cell h.box 1, blk_cell h.box 2, blk_cell h.box 3⟩
theorem St1.ne (h : St1 w0 K A B M vw l0 g n cap W l) : w0.heap.size ≠ g := by have := h.ge; omega
theorem St1.len (h : St1 w0 K A B M vw l0 g n cap W l) : n = l.length := (Kd.R_reads' h.row).1
end

theorem St1.fill {w0 W : World} {K A B M : Int} {vw : Value} {l0 l : List S116} {g n cap : Nat} (h : St1 w0 K A B M vw l0 g n cap W l) (i m : Int) (h0 : 0 ≤ i) (h1 : i < n) :
    St1 w0 K A B M vw l0 g n cap (W.setCell ⟨g, i.toNat * 5, none⟩ (.int .i64 (wrap64 ((rd_T116 l i).f0 + m)))) (l.set i.toNat ⟨wrap64 ((rd_T116 l i).f0 + m), (rd_T116 l i).f1, (rd_T116 l i).f2, (rd_T116 l i).f3, (rd_T116 l i).f4⟩) :=
  h.put (R_put116_0 h.row i h0 h1 _).1 (R_put116_0 h.row i h0 h1 _).2
theorem St1.vent {w0 W : World} {K A B M : Int} {vw : Value} {l0 l : List S116} {g n cap : Nat} (h : St1 w0 K A B M vw l0 g n cap W l) (i m : Int) (h0 : 0 ≤ i) (h1 : i < n) :
    St1 w0 K A B M vw l0 g n cap (W.setCell ⟨g, i.toNat * 5 + 4, none⟩ (.int .i64 (wrap64 ((rd_T116 l i).f4 + wrap64 (10 * m))))) (l.set i.toNat ⟨(rd_T116 l i).f0, (rd_T116 l i).f1, (rd_T116 l i).f2, (rd_T116 l i).f3, wrap64 ((rd_T116 l i).f4 + wrap64 (10 * m))⟩) :=
  h.put (R_put116_4 h.row i h0 h1 _).1 (R_put116_4 h.row i h0 h1 _).2
theorem St1.gas {w0 W : World} {K A B M : Int} {vw : Value} {l0 l : List S116} {g n cap : Nat} (h : St1 w0 K A B M vw l0 g n cap W l) (i m : Int) (h0 : 0 ≤ i) (h1 : i < n) :
    St1 w0 K A B M vw l0 g n cap ((W.setCell ⟨g, i.toNat * 5 + 3, none⟩ (.int .i64 (wrap64 ((wrap64 ((rd_T116 l i).f3 * wrap64 (100 - m))).tdiv 100)))).setCell ⟨g, i.toNat * 5 + 4, none⟩ (.int .i64 (wrap64 ((wrap64 ((rd_T116 l i).f4 * wrap64 (100 - m))).tdiv 100)))) (l.set i.toNat ⟨(rd_T116 l i).f0, (rd_T116 l i).f1, (rd_T116 l i).f2, wrap64 ((wrap64 ((rd_T116 l i).f3 * wrap64 (100 - m))).tdiv 100), wrap64 ((wrap64 ((rd_T116 l i).f4 * wrap64 (100 - m))).tdiv 100)⟩) := by
  have hil : i.toNat < l.length := by have := h.len; omega
  have h3 := R_put116_3 h.row i h0 h1 (wrap64 ((wrap64 ((rd_T116 l i).f3 * wrap64 (100 - m))).tdiv 100))
  have hs := h.put h3.1 h3.2
  have h4 := R_put116_4 hs.row i h0 h1 (wrap64 ((wrap64 ((rd_T116 l i).f4 * wrap64 (100 - m))).tdiv 100))
  have he := hs.put h4.1 h4.2
  rw [rd_set116 l i _ hil] at he
  simp only [List.set_set] at he
  exact he
theorem lean_calls2 (A0 : Option Addr) (n c0 : Nat) (l : List S116) (w : World) (hr0 : Kd.C k116 w A0 l.length l) (hn : n = l.length) (hc0 : n ≤ c0) (hl : n ≤ 3518437208882) : Calls Try.prog 132 #[.slice A0 n c0] w fun e w' => e = .returned (.int .i64 (leanV 0 l)) ∧ Below w.heap.size w w' := by
  subst hn
  exact lean_calls A0 c0 l w hr0 hc0 hl

def isFrom (K : Int) : Bool := K == 2 || K == 3
def isTo (K : Int) : Bool := K == 1 || K == 3
def toAt (K A B : Int) : Int := if K = 1 then A else B
def gasT (x : S116) (M : Int) : S116 := ⟨x.f0, x.f1, x.f2, wrap64 (Int.tdiv (wrap64 (x.f3 * wrap64 (100 - M))) 100), wrap64 (Int.tdiv (wrap64 (x.f4 * wrap64 (100 - M))) 100)⟩
def ventT (x : S116) (M : Int) : S116 := ⟨x.f0, x.f1, x.f2, x.f3, wrap64 (x.f4 + wrap64 (10 * M))⟩
def fillT (x : S116) (M : Int) : S116 := ⟨wrap64 (x.f0 + M), x.f1, x.f2, x.f3, x.f4⟩
def changed (l : List S116) (K A B M : Int) : List S116 :=
  let l1 := if isFrom K = true then l.set A.toNat (outT (rd_T116 l A) M) else l
  let l2 := if isTo K = true then l1.set (toAt K A B).toNat (fillT (rd_T116 l1 (toAt K A B)) M) else l1
  let l3 := if k45 K = true then l2.set A.toNat (gasT (rd_T116 l2 A) M) else l2
  if K = 5 then l3.set A.toNat (ventT (rd_T116 l3 A) M) else l3
def impl_CargoStep.f (l0 : List S116) (K A B M lean : Int) : Option (List S116 × Int) :=
  if l0.length ≤ 3518437208882 then
    if stepBad l0 K A B M lean = true then some (l0, 1) else
    if isFrom K = true ∧ (rd_T116 l0 A).f0 < M then some (l0, 2) else
    if isTo K = true ∧ wrap64 ((rd_T116 l0 (toAt K A B)).f0 + M) > (rd_T116 l0 (toAt K A B)).f1 then some (l0, 3) else
    if isFrom K = true ∧ wrap64 ((rd_T116 l0 A).f1 - wrap64 ((rd_T116 l0 A).f0 - M)) = 0 then none else
    if (burnB (rd_T116 (changed l0 K A B M) A) || (K == 3 && burnB (rd_T116 (changed l0 K A B M) B))) = true then some (l0, 4) else
    if sizeV (leanV 0 (changed l0 K A B M)) > lean ∧ sizeV (leanV 0 (changed l0 K A B M)) > sizeV (leanV 0 l0) then some (l0, 5) else
    some (changed l0 K A B M, 0)
  else none
end Go.Proofs.Ytmdennlkgakfnaa.C
