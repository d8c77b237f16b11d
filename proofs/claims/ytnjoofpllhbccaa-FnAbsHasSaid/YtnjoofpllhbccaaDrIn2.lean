/- Lemmas and walks of this proof, some texts one behind the other. No condition. -/
import Derived.Test.YtnjoofpllhbccaaDrAE
import Derived.Test.YtnjoofpllhbccaaDrH
set_option linter.unusedSimpArgs false
set_option linter.unusedVariables false
/- The draw of a number in bounds. No condition. -/
namespace Go.Proofs.Ytnjoofpllhbccaa
open Go.RowKit
set_option linter.unusedVariables false
set_option linter.unusedSimpArgs false
attribute [local go_sem] dg_cell dg_frozen dg_lt dg_lt1 dg_lt2 dg_ne dg_ne1 dg_ne2 dg_new dg_wen lt_s2 lt_s3 lt_s4 lt_s5 lt_s6

section
variable {ops : Array Oper} {Q : Exit → Act → World → Prop} {a0 : Act} {g PP : Nat} {c : Nat → Nat} {J : World → Prop} {F : Nat → Prop} {R : Nat → World → Value → Prop} {i : Nat} {o : Oper}
theorem ds_add2 (d1 d2 : Tmp) (k1 k2 : Nat) (hop : o.op = .binOp .add 3 (.tmp d1) (.tmp d2) 3) (h1 : Dep ops o k1 d1) (h2 : Dep ops o k2 d2) (hs1 : ∀ W v, R k1 W v → IsInt v) (hs2 : ∀ W v, R k2 W v → IsInt v) (hR : ∀ W v, IsInt v → R i W v) : DStep Try.prog ops Q a0 g PP c J F R i o := by
  intro a w p hp hJ hr hf hd
  obtain ⟨x, hx⟩ := hs1 _ _ (dep_of h1 hd)
  obtain ⟨y, hy⟩ := hs2 _ _ (dep_of h2 hd)
  refine op_val (v := .int .i64 (IntKind.i64.wrap (x + y))) (w' := w) ?_ ⟨_, rfl, hR _ _ ⟨_, rfl⟩, hJ, hr.mono (by omega), Chg.refl _ _⟩
  simp only [execOp, hop, hx, hy, eval_const]
  simp [go_sem]
  try rfl
theorem ds_mul2 (d1 d2 : Tmp) (k1 k2 : Nat) (hop : o.op = .binOp .mul 3 (.tmp d1) (.tmp d2) 3) (h1 : Dep ops o k1 d1) (h2 : Dep ops o k2 d2) (hs1 : ∀ W v, R k1 W v → IsInt v) (hs2 : ∀ W v, R k2 W v → IsInt v) (hR : ∀ W v, IsInt v → R i W v) : DStep Try.prog ops Q a0 g PP c J F R i o := by
  intro a w p hp hJ hr hf hd
  obtain ⟨x, hx⟩ := hs1 _ _ (dep_of h1 hd)
  obtain ⟨y, hy⟩ := hs2 _ _ (dep_of h2 hd)
  refine op_val (v := .int .i64 (IntKind.i64.wrap (x * y))) (w' := w) ?_ ⟨_, rfl, hR _ _ ⟨_, rfl⟩, hJ, hr.mono (by omega), Chg.refl _ _⟩
  simp only [execOp, hop, hx, hy, eval_const]
  simp [go_sem]
  try rfl
theorem ds_sub2 (d1 d2 : Tmp) (k1 k2 : Nat) (hop : o.op = .binOp .sub 3 (.tmp d1) (.tmp d2) 3) (h1 : Dep ops o k1 d1) (h2 : Dep ops o k2 d2) (hs1 : ∀ W v, R k1 W v → IsInt v) (hs2 : ∀ W v, R k2 W v → IsInt v) (hR : ∀ W v, IsInt v → R i W v) : DStep Try.prog ops Q a0 g PP c J F R i o := by
  intro a w p hp hJ hr hf hd
  obtain ⟨x, hx⟩ := hs1 _ _ (dep_of h1 hd)
  obtain ⟨y, hy⟩ := hs2 _ _ (dep_of h2 hd)
  refine op_val (v := .int .i64 (IntKind.i64.wrap (x - y))) (w' := w) ?_ ⟨_, rfl, hR _ _ ⟨_, rfl⟩, hJ, hr.mono (by omega), Chg.refl _ _⟩
  simp only [execOp, hop, hx, hy, eval_const]
  simp [go_sem]
  try rfl
theorem ds_mulR (d : Tmp) (k : Nat) (n : Int) (hop : o.op = .binOp .mul 3 (.tmp d) (.const (.int .i64 n)) 3) (h1 : Dep ops o k d) (hs : ∀ W v, R k W v → IsInt v) (hR : ∀ W v, IsInt v → R i W v) : DStep Try.prog ops Q a0 g PP c J F R i o := by
  intro a w p hp hJ hr hf hd
  obtain ⟨x, hx⟩ := hs _ _ (dep_of h1 hd)
  refine op_val (v := .int .i64 (IntKind.i64.wrap (x * n))) (w' := w) ?_ ⟨_, rfl, hR _ _ ⟨_, rfl⟩, hJ, hr.mono (by omega), Chg.refl _ _⟩
  simp only [execOp, hop, hx, eval_const]
  simp [go_sem]
  try rfl
/-- A sum that is known. -/
theorem ds_addK (d : Tmp) (k : Nat) (x n z : Int) (hop : o.op = .binOp .add 3 (.tmp d) (.const (.int .i64 n)) 3) (h1 : Dep ops o k d) (hs : ∀ W v, R k W v → v = .int .i64 x) (hz : IntKind.i64.wrap (x + n) = z) (hR : ∀ W v, v = .int .i64 z → R i W v) : DStep Try.prog ops Q a0 g PP c J F R i o := by
  intro a w p hp hJ hr hf hd
  have hx := hs _ _ (dep_of h1 hd)
  refine op_val (v := .int .i64 z) (w' := w) ?_ ⟨_, rfl, hR _ _ rfl, hJ, hr.mono (by omega), Chg.refl _ _⟩
  simp only [execOp, hop, hx, eval_const]
  simp [go_sem, hz]
theorem ds_rem2 (d1 d2 : Tmp) (k1 k2 : Nat) (y : Int) (hy0 : y ≠ 0) (hop : o.op = .binOp .rem 3 (.tmp d1) (.tmp d2) 3) (h1 : Dep ops o k1 d1) (h2 : Dep ops o k2 d2) (hs1 : ∀ W v, R k1 W v → IsInt v) (hs2 : ∀ W v, R k2 W v → v = .int .i64 y) (hR : ∀ W v, IsInt v → R i W v) : DStep Try.prog ops Q a0 g PP c J F R i o := by
  intro a w p hp hJ hr hf hd
  obtain ⟨x, hx⟩ := hs1 _ _ (dep_of h1 hd)
  have hy := hs2 _ _ (dep_of h2 hd)
  refine op_val (v := .int .i64 (x.tmod y)) (w' := w) ?_ ⟨_, rfl, hR _ _ ⟨_, rfl⟩, hJ, hr.mono (by omega), Chg.refl _ _⟩
  simp only [execOp, hop, hx, hy, eval_const]
  simp [go_sem, hy0]
  try rfl
end
set_option maxRecDepth 100000 in
set_option maxHeartbeats 2000000 in
theorem ofG {g P : Nat} {lo hi : Int} {w : World} (h : RdLe w g P) (hp : P + 3 ≤ 1099511627776) (hok : itvOkB lo hi = true) :
    Calls Try.prog 125 #[.pointer (some ⟨g, 0, none⟩), .agg #[.int .i64 lo, .int .i64 hi]] w (RetG IsInt g (P + 3) w) := by
  have lt0 := h.lt
  obtain ⟨ne0, ne1, ne2, ne3, ne4, ne5⟩ : ¬ w.heap.size = g ∧ ¬ w.heap.size + 1 = g ∧ ¬ w.heap.size + 1 + 1 = g ∧ ¬ w.heap.size + 1 + 1 + 1 = g ∧ ¬ w.heap.size + 1 + 1 + 1 + 1 = g ∧ ¬ w.heap.size + 1 + 1 + 1 + 1 + 1 = g := by omega
  have HP := Lib.hid h; clear h
  simp only [itvOkB, Bool.and_eq_true, decide_eq_true_eq] at hok
  obtain ⟨d, hd⟩ : ∃ d, hi - lo = d := ⟨_, rfl⟩
  have hdw : IntKind.i64.wrap (hi - lo) = d := by rw [IntKind.wrap_i64]; omega
  have hd1 : d + 1 ≠ 0 := by omega
  have hd1w : IntKind.i64.wrap (d + 1) = d + 1 := by rw [IntKind.wrap_i64]; omega
  have hPP : P + 1 + 2 ≤ 1099511627776 := by omega
  have hJC : ∀ W W', (ChgG g w W ∧ BoxI w.heap.size W) → ChgG g W W' → (ChgG g w W' ∧ BoxI w.heap.size W') := fun W W' h c => ⟨h.1.trans c, h.2.chg c ne0⟩
  have HD1 := Lib.hid hd1
  have HD1w := Lib.hid hd1w
  have HDe := Lib.hid hd
  clear hok hd1 hd1w hd
  go_enter Try.func125, Try.ntmps125
  go_wp2_with fail
  refine Calls.mono (pickG (k := 4) (by (repeat (first | with_reducible assumption | with_reducible exact rd_ext _ | with_reducible exact Hid.out (by assumption) | with_reducible apply rd_al | with_reducible apply rd_drew | (with_reducible apply rd_set; rotate_left; (focus (first | ((repeat (first | with_reducible assumption | omega | with_reducible exact dg_gt _ | (simp only [World.size_alloc, World.size_setCell, World.size_drew]) | with_reducible apply Nat.lt_succ_of_lt | with_reducible apply dg_lt | with_reducible apply le_pl | with_reducible apply dg_le)); done) | assumption | omega | (simp only [World.size_alloc, World.size_setCell, World.size_drew]; first | done | omega | (repeat (first | with_reducible assumption | with_reducible exact dg_gt _ | with_reducible apply Nat.lt_succ_of_lt | with_reducible apply dg_lt | with_reducible apply le_pl | with_reducible apply Nat.le_trans ?_ (dg_size _)))))))))) ?_ ?_) ?_
  · omega
  · omega
  rintro e w' ⟨v, rfl, ⟨j, rfl, hj⟩, hr, hc⟩
  (first | (obtain ⟨x1, hxx⟩ := extg_col hc hr (dg_gt _); subst hxx) | (obtain ⟨x1, hxx⟩ := extg_of hc hr (by (focus (first | ((repeat (first | with_reducible assumption | omega | with_reducible exact dg_gt _ | (simp only [World.size_alloc, World.size_setCell, World.size_drew]) | with_reducible apply Nat.lt_succ_of_lt | with_reducible apply dg_lt | with_reducible apply le_pl | with_reducible apply dg_le)); done) | assumption | omega | (simp only [World.size_alloc, World.size_setCell, World.size_drew]; first | done | omega | (repeat (first | with_reducible assumption | with_reducible exact dg_gt _ | with_reducible apply Nat.lt_succ_of_lt | with_reducible apply dg_lt | with_reducible apply le_pl | with_reducible apply Nat.le_trans ?_ (dg_size _))))))); subst hxx))
  clear hc hr
  have hj := hj (by omega)
  have hj4 : j = 0 ∨ j = 1 ∨ j = 2 ∨ j = 3 := by omega
  rcases hj4 with rfl | rfl | rfl | rfl
  · go_wp2
    go_ret
    refine ⟨_, rfl, ⟨_, rfl⟩, RdLe.mono (by (repeat (first | with_reducible assumption | with_reducible exact rd_ext _ | with_reducible exact Hid.out (by assumption) | with_reducible apply rd_al | with_reducible apply rd_drew | (with_reducible apply rd_set; rotate_left; (focus (first | ((repeat (first | with_reducible assumption | omega | with_reducible exact dg_gt _ | (simp only [World.size_alloc, World.size_setCell, World.size_drew]) | with_reducible apply Nat.lt_succ_of_lt | with_reducible apply dg_lt | with_reducible apply le_pl | with_reducible apply dg_le)); done) | assumption | omega | (simp only [World.size_alloc, World.size_setCell, World.size_drew]; first | done | omega | (repeat (first | with_reducible assumption | with_reducible exact dg_gt _ | with_reducible apply Nat.lt_succ_of_lt | with_reducible apply dg_lt | with_reducible apply le_pl | with_reducible apply Nat.le_trans ?_ (dg_size _)))))))))) (by omega), by (repeat (first | with_reducible exact ChgG.refl _ _ | with_reducible assumption | with_reducible refine chg_ext ?_ _ | with_reducible refine chg_al ?_ _ | with_reducible refine chg_drew ?_ | with_reducible refine chg_set ?_ (by (focus (first | ((repeat (first | with_reducible assumption | omega | with_reducible exact dg_gt _ | (simp only [World.size_alloc, World.size_setCell, World.size_drew]) | with_reducible apply Nat.lt_succ_of_lt | with_reducible apply dg_lt | with_reducible apply le_pl | with_reducible apply dg_le)); done) | assumption | omega | (simp only [World.size_alloc, World.size_setCell, World.size_drew]; first | done | omega | (repeat (first | with_reducible assumption | with_reducible exact dg_gt _ | with_reducible apply Nat.lt_succ_of_lt | with_reducible apply dg_lt | with_reducible apply le_pl | with_reducible apply Nat.le_trans ?_ (dg_size _))))))) _))⟩
  · go_wp2
    go_ret
    refine ⟨_, rfl, ⟨_, rfl⟩, RdLe.mono (by (repeat (first | with_reducible assumption | with_reducible exact rd_ext _ | with_reducible exact Hid.out (by assumption) | with_reducible apply rd_al | with_reducible apply rd_drew | (with_reducible apply rd_set; rotate_left; (focus (first | ((repeat (first | with_reducible assumption | omega | with_reducible exact dg_gt _ | (simp only [World.size_alloc, World.size_setCell, World.size_drew]) | with_reducible apply Nat.lt_succ_of_lt | with_reducible apply dg_lt | with_reducible apply le_pl | with_reducible apply dg_le)); done) | assumption | omega | (simp only [World.size_alloc, World.size_setCell, World.size_drew]; first | done | omega | (repeat (first | with_reducible assumption | with_reducible exact dg_gt _ | with_reducible apply Nat.lt_succ_of_lt | with_reducible apply dg_lt | with_reducible apply le_pl | with_reducible apply Nat.le_trans ?_ (dg_size _)))))))))) (by omega), by (repeat (first | with_reducible exact ChgG.refl _ _ | with_reducible assumption | with_reducible refine chg_ext ?_ _ | with_reducible refine chg_al ?_ _ | with_reducible refine chg_drew ?_ | with_reducible refine chg_set ?_ (by (focus (first | ((repeat (first | with_reducible assumption | omega | with_reducible exact dg_gt _ | (simp only [World.size_alloc, World.size_setCell, World.size_drew]) | with_reducible apply Nat.lt_succ_of_lt | with_reducible apply dg_lt | with_reducible apply le_pl | with_reducible apply dg_le)); done) | assumption | omega | (simp only [World.size_alloc, World.size_setCell, World.size_drew]; first | done | omega | (repeat (first | with_reducible assumption | with_reducible exact dg_gt _ | with_reducible apply Nat.lt_succ_of_lt | with_reducible apply dg_lt | with_reducible apply le_pl | with_reducible apply Nat.le_trans ?_ (dg_size _))))))) _))⟩
  · by_cases h0 : lo ≤ 0 ∧ 0 ≤ hi
    · obtain ⟨ha, hb⟩ := h0
      have ha2 : decide (lo ≤ 0) = true := decide_eq_true ha
      have hb2 : decide (0 ≤ hi) = true := decide_eq_true hb
      go_wp2
      go_ret
      refine ⟨_, rfl, ⟨_, rfl⟩, RdLe.mono (by (repeat (first | with_reducible assumption | with_reducible exact rd_ext _ | with_reducible exact Hid.out (by assumption) | with_reducible apply rd_al | with_reducible apply rd_drew | (with_reducible apply rd_set; rotate_left; (focus (first | ((repeat (first | with_reducible assumption | omega | with_reducible exact dg_gt _ | (simp only [World.size_alloc, World.size_setCell, World.size_drew]) | with_reducible apply Nat.lt_succ_of_lt | with_reducible apply dg_lt | with_reducible apply le_pl | with_reducible apply dg_le)); done) | assumption | omega | (simp only [World.size_alloc, World.size_setCell, World.size_drew]; first | done | omega | (repeat (first | with_reducible assumption | with_reducible exact dg_gt _ | with_reducible apply Nat.lt_succ_of_lt | with_reducible apply dg_lt | with_reducible apply le_pl | with_reducible apply Nat.le_trans ?_ (dg_size _)))))))))) (by omega), by (repeat (first | with_reducible exact ChgG.refl _ _ | with_reducible assumption | with_reducible refine chg_ext ?_ _ | with_reducible refine chg_al ?_ _ | with_reducible refine chg_drew ?_ | with_reducible refine chg_set ?_ (by (focus (first | ((repeat (first | with_reducible assumption | omega | with_reducible exact dg_gt _ | (simp only [World.size_alloc, World.size_setCell, World.size_drew]) | with_reducible apply Nat.lt_succ_of_lt | with_reducible apply dg_lt | with_reducible apply le_pl | with_reducible apply dg_le)); done) | assumption | omega | (simp only [World.size_alloc, World.size_setCell, World.size_drew]; first | done | omega | (repeat (first | with_reducible assumption | with_reducible exact dg_gt _ | with_reducible apply Nat.lt_succ_of_lt | with_reducible apply dg_lt | with_reducible apply le_pl | with_reducible apply Nat.le_trans ?_ (dg_size _))))))) _))⟩
    · by_cases ha : lo ≤ 0
      · have hb : ¬ 0 ≤ hi := fun e => h0 ⟨ha, e⟩
        have ha2 : decide (lo ≤ 0) = true := decide_eq_true ha
        have hb2 : decide (0 ≤ hi) = false := decide_eq_false hb
        go_wp2_with fail
        have hd1 := HD1.out
        have hd1w := HD1w.out
        refine region_drawX 2 43 [0, 0, 0, 1, 0, 0, 1, 0, 0, 0, 0, 0, 0] (fun W => ChgG g w W ∧ BoxI w.heap.size W) (fun b => b = g ∨ b = w.heap.size)
          [prV (fun v => v = .pointer (some ⟨w.heap.size, 0, none⟩)), prV IsInt, prV (fun v => v = .pointer (some ⟨g, 0, none⟩)), prV (IsNat 256), prV IsInt, prV (fun v => v = .pointer (some ⟨g, 0, none⟩)), prV (IsNat 256), prV IsInt, prV (fun v => v = .int .i64 d), prV (fun v => v = .int .i64 (d + 1)), prV IsInt, prV IsInt, prV IsInt]
          (by kernel_rfl) rfl (by kernel_rfl) (by kernel_rfl) ⟨by (repeat (first | with_reducible exact ChgG.refl _ _ | with_reducible assumption | with_reducible refine chg_ext ?_ _ | with_reducible refine chg_al ?_ _ | with_reducible refine chg_drew ?_ | with_reducible refine chg_set ?_ (by (focus (first | ((repeat (first | with_reducible assumption | omega | with_reducible exact dg_gt _ | (simp only [World.size_alloc, World.size_setCell, World.size_drew]) | with_reducible apply Nat.lt_succ_of_lt | with_reducible apply dg_lt | with_reducible apply le_pl | with_reducible apply dg_le)); done) | assumption | omega | (simp only [World.size_alloc, World.size_setCell, World.size_drew]; first | done | omega | (repeat (first | with_reducible assumption | with_reducible exact dg_gt _ | with_reducible apply Nat.lt_succ_of_lt | with_reducible apply dg_lt | with_reducible apply le_pl | with_reducible apply Nat.le_trans ?_ (dg_size _))))))) _)), ?_⟩ ⟨?_, ?_, ?_, ?_, ?_, ?_, ?_, ?_, ?_, ?_, ?_, ?_, ?_, trivial⟩ ?_
        · exact BoxI.grew (BoxI.chg ⟨lo, hi, Blk.new _ _ _⟩ (Gd.chg _) ne0) (grew_d (Below.refl _ _))
        · exact ds_field 3 0 _ _ rfl (by kernel_rfl) rfl (fun W => by kernel_rfl) (fun _ => rfl)
        · exact ds_loadB 31 0 ⟨w.heap.size, 0, none⟩ rfl ⟨⟨⟨0, .data⟩, by simp, rfl, by kernel_rfl⟩, by kernel_rfl⟩ (fun _ _ h => h) (fun W h => h.2.get0) (fun _ _ h => h)
        · exact ds_move 0 _ rfl (by kernel_rfl) rfl (fun _ => rfl)
        · exact ds_pick 33 2 256 (fun _ _ => by kernel_rfl) ⟨⟨⟨2, .data⟩, by simp, rfl, by kernel_rfl⟩, by kernel_rfl⟩ (fun _ _ h => h) rfl hPP (by omega) (fun _ _ h => h) hJC (.inl rfl)
        · exact ds_mulR 34 3 256 rfl ⟨⟨⟨3, .data⟩, by simp, rfl, by kernel_rfl⟩, by kernel_rfl⟩ (fun _ _ h => isInt_of_nat h) (fun _ _ h => h)
        · exact ds_move 0 _ rfl (by kernel_rfl) rfl (fun _ => rfl)
        · exact ds_pick 36 5 256 (fun _ _ => by kernel_rfl) ⟨⟨⟨5, .data⟩, by simp, rfl, by kernel_rfl⟩, by kernel_rfl⟩ (fun _ _ h => h) rfl hPP (by omega) (fun _ _ h => h) hJC (.inl rfl)
        · exact ds_add2 35 37 4 6 rfl ⟨⟨⟨4, .data⟩, by simp, rfl, by kernel_rfl⟩, by kernel_rfl⟩ ⟨⟨⟨6, .data⟩, by simp, rfl, by kernel_rfl⟩, by kernel_rfl⟩ (fun _ _ h => h) (fun _ _ h => isInt_of_nat h) (fun _ _ h => h)
        · exact ds_move 5 _ rfl (by kernel_rfl) rfl (fun _ => rfl)
        · exact ds_addK 39 8 d 1 (d + 1) rfl ⟨⟨⟨8, .data⟩, by simp, rfl, by kernel_rfl⟩, by kernel_rfl⟩ (fun _ _ h => h) hd1w (fun _ _ h => h)
        · exact ds_rem2 38 40 7 9 (d + 1) hd1 rfl ⟨⟨⟨7, .data⟩, by simp, rfl, by kernel_rfl⟩, by kernel_rfl⟩ ⟨⟨⟨9, .data⟩, by simp, rfl, by kernel_rfl⟩, by kernel_rfl⟩ (fun _ _ h => h) (fun _ _ h => h) (fun _ _ h => h)
        · exact ds_add2 32 41 1 10 rfl ⟨⟨⟨1, .data⟩, by simp, rfl, by kernel_rfl⟩, by kernel_rfl⟩ ⟨⟨⟨10, .data⟩, by simp, rfl, by kernel_rfl⟩, by kernel_rfl⟩ (fun _ _ h => h) (fun _ _ h => h) (fun _ _ h => h)
        · exact ds_assign 42 11 rfl ⟨⟨⟨11, .data⟩, by simp, rfl, by kernel_rfl⟩, by kernel_rfl⟩ (fun _ _ h => h)
        · rintro vs w' ⟨hc, _⟩ hr hR
          obtain ⟨z, hz⟩ : IsInt (vs 12) := hR 12 4 (by kernel_rfl)
          have HP1 := Lib.hid hr
          have HC1 := Lib.hid hc
          simp only [putAll, Act.put, List.setIfInBounds_toArray, List.set_cons_zero, List.set_cons_succ]
          clear hr hc hR
          go_wp2
          go_ret
          exact ⟨_, rfl, ⟨z, hz⟩, HP1.out.mono (by omega), HC1.out⟩
      · have ha2 : decide (lo ≤ 0) = false := decide_eq_false ha
        go_wp2_with fail
        have hd1 := HD1.out
        have hd1w := HD1w.out
        refine region_drawX 2 43 [0, 0, 0, 1, 0, 0, 1, 0, 0, 0, 0, 0, 0] (fun W => ChgG g w W ∧ BoxI w.heap.size W) (fun b => b = g ∨ b = w.heap.size)
          [prV (fun v => v = .pointer (some ⟨w.heap.size, 0, none⟩)), prV IsInt, prV (fun v => v = .pointer (some ⟨g, 0, none⟩)), prV (IsNat 256), prV IsInt, prV (fun v => v = .pointer (some ⟨g, 0, none⟩)), prV (IsNat 256), prV IsInt, prV (fun v => v = .int .i64 d), prV (fun v => v = .int .i64 (d + 1)), prV IsInt, prV IsInt, prV IsInt]
          (by kernel_rfl) rfl (by kernel_rfl) (by kernel_rfl) ⟨by (repeat (first | with_reducible exact ChgG.refl _ _ | with_reducible assumption | with_reducible refine chg_ext ?_ _ | with_reducible refine chg_al ?_ _ | with_reducible refine chg_drew ?_ | with_reducible refine chg_set ?_ (by (focus (first | ((repeat (first | with_reducible assumption | omega | with_reducible exact dg_gt _ | (simp only [World.size_alloc, World.size_setCell, World.size_drew]) | with_reducible apply Nat.lt_succ_of_lt | with_reducible apply dg_lt | with_reducible apply le_pl | with_reducible apply dg_le)); done) | assumption | omega | (simp only [World.size_alloc, World.size_setCell, World.size_drew]; first | done | omega | (repeat (first | with_reducible assumption | with_reducible exact dg_gt _ | with_reducible apply Nat.lt_succ_of_lt | with_reducible apply dg_lt | with_reducible apply le_pl | with_reducible apply Nat.le_trans ?_ (dg_size _))))))) _)), ?_⟩ ⟨?_, ?_, ?_, ?_, ?_, ?_, ?_, ?_, ?_, ?_, ?_, ?_, ?_, trivial⟩ ?_
        · exact BoxI.grew (BoxI.chg ⟨lo, hi, Blk.new _ _ _⟩ (Gd.chg _) ne0) (grew_d (Below.refl _ _))
        · exact ds_field 3 0 _ _ rfl (by kernel_rfl) rfl (fun W => by kernel_rfl) (fun _ => rfl)
        · exact ds_loadB 31 0 ⟨w.heap.size, 0, none⟩ rfl ⟨⟨⟨0, .data⟩, by simp, rfl, by kernel_rfl⟩, by kernel_rfl⟩ (fun _ _ h => h) (fun W h => h.2.get0) (fun _ _ h => h)
        · exact ds_move 0 _ rfl (by kernel_rfl) rfl (fun _ => rfl)
        · exact ds_pick 33 2 256 (fun _ _ => by kernel_rfl) ⟨⟨⟨2, .data⟩, by simp, rfl, by kernel_rfl⟩, by kernel_rfl⟩ (fun _ _ h => h) rfl hPP (by omega) (fun _ _ h => h) hJC (.inl rfl)
        · exact ds_mulR 34 3 256 rfl ⟨⟨⟨3, .data⟩, by simp, rfl, by kernel_rfl⟩, by kernel_rfl⟩ (fun _ _ h => isInt_of_nat h) (fun _ _ h => h)
        · exact ds_move 0 _ rfl (by kernel_rfl) rfl (fun _ => rfl)
        · exact ds_pick 36 5 256 (fun _ _ => by kernel_rfl) ⟨⟨⟨5, .data⟩, by simp, rfl, by kernel_rfl⟩, by kernel_rfl⟩ (fun _ _ h => h) rfl hPP (by omega) (fun _ _ h => h) hJC (.inl rfl)
        · exact ds_add2 35 37 4 6 rfl ⟨⟨⟨4, .data⟩, by simp, rfl, by kernel_rfl⟩, by kernel_rfl⟩ ⟨⟨⟨6, .data⟩, by simp, rfl, by kernel_rfl⟩, by kernel_rfl⟩ (fun _ _ h => h) (fun _ _ h => isInt_of_nat h) (fun _ _ h => h)
        · exact ds_move 5 _ rfl (by kernel_rfl) rfl (fun _ => rfl)
        · exact ds_addK 39 8 d 1 (d + 1) rfl ⟨⟨⟨8, .data⟩, by simp, rfl, by kernel_rfl⟩, by kernel_rfl⟩ (fun _ _ h => h) hd1w (fun _ _ h => h)
        · exact ds_rem2 38 40 7 9 (d + 1) hd1 rfl ⟨⟨⟨7, .data⟩, by simp, rfl, by kernel_rfl⟩, by kernel_rfl⟩ ⟨⟨⟨9, .data⟩, by simp, rfl, by kernel_rfl⟩, by kernel_rfl⟩ (fun _ _ h => h) (fun _ _ h => h) (fun _ _ h => h)
        · exact ds_add2 32 41 1 10 rfl ⟨⟨⟨1, .data⟩, by simp, rfl, by kernel_rfl⟩, by kernel_rfl⟩ ⟨⟨⟨10, .data⟩, by simp, rfl, by kernel_rfl⟩, by kernel_rfl⟩ (fun _ _ h => h) (fun _ _ h => h) (fun _ _ h => h)
        · exact ds_assign 42 11 rfl ⟨⟨⟨11, .data⟩, by simp, rfl, by kernel_rfl⟩, by kernel_rfl⟩ (fun _ _ h => h)
        · rintro vs w' ⟨hc, _⟩ hr hR
          obtain ⟨z, hz⟩ : IsInt (vs 12) := hR 12 4 (by kernel_rfl)
          have HP1 := Lib.hid hr
          have HC1 := Lib.hid hc
          simp only [putAll, Act.put, List.setIfInBounds_toArray, List.set_cons_zero, List.set_cons_succ]
          clear hr hc hR
          go_wp2
          go_ret
          exact ⟨_, rfl, ⟨z, hz⟩, HP1.out.mono (by omega), HC1.out⟩
  · go_wp2_with fail
    have hd1 := HD1.out
    have hd1w := HD1w.out
    refine region_drawX 2 43 [0, 0, 0, 1, 0, 0, 1, 0, 0, 0, 0, 0, 0] (fun W => ChgG g w W ∧ BoxI w.heap.size W) (fun b => b = g ∨ b = w.heap.size)
      [prV (fun v => v = .pointer (some ⟨w.heap.size, 0, none⟩)), prV IsInt, prV (fun v => v = .pointer (some ⟨g, 0, none⟩)), prV (IsNat 256), prV IsInt, prV (fun v => v = .pointer (some ⟨g, 0, none⟩)), prV (IsNat 256), prV IsInt, prV (fun v => v = .int .i64 d), prV (fun v => v = .int .i64 (d + 1)), prV IsInt, prV IsInt, prV IsInt]
      (by kernel_rfl) rfl (by kernel_rfl) (by kernel_rfl) ⟨by (repeat (first | with_reducible exact ChgG.refl _ _ | with_reducible assumption | with_reducible refine chg_ext ?_ _ | with_reducible refine chg_al ?_ _ | with_reducible refine chg_drew ?_ | with_reducible refine chg_set ?_ (by (focus (first | ((repeat (first | with_reducible assumption | omega | with_reducible exact dg_gt _ | (simp only [World.size_alloc, World.size_setCell, World.size_drew]) | with_reducible apply Nat.lt_succ_of_lt | with_reducible apply dg_lt | with_reducible apply le_pl | with_reducible apply dg_le)); done) | assumption | omega | (simp only [World.size_alloc, World.size_setCell, World.size_drew]; first | done | omega | (repeat (first | with_reducible assumption | with_reducible exact dg_gt _ | with_reducible apply Nat.lt_succ_of_lt | with_reducible apply dg_lt | with_reducible apply le_pl | with_reducible apply Nat.le_trans ?_ (dg_size _))))))) _)), ?_⟩ ⟨?_, ?_, ?_, ?_, ?_, ?_, ?_, ?_, ?_, ?_, ?_, ?_, ?_, trivial⟩ ?_
    · exact BoxI.grew (BoxI.chg ⟨lo, hi, Blk.new _ _ _⟩ (Gd.chg _) ne0) (grew_d (Below.refl _ _))
    · exact ds_field 3 0 _ _ rfl (by kernel_rfl) rfl (fun W => by kernel_rfl) (fun _ => rfl)
    · exact ds_loadB 31 0 ⟨w.heap.size, 0, none⟩ rfl ⟨⟨⟨0, .data⟩, by simp, rfl, by kernel_rfl⟩, by kernel_rfl⟩ (fun _ _ h => h) (fun W h => h.2.get0) (fun _ _ h => h)
    · exact ds_move 0 _ rfl (by kernel_rfl) rfl (fun _ => rfl)
    · exact ds_pick 33 2 256 (fun _ _ => by kernel_rfl) ⟨⟨⟨2, .data⟩, by simp, rfl, by kernel_rfl⟩, by kernel_rfl⟩ (fun _ _ h => h) rfl hPP (by omega) (fun _ _ h => h) hJC (.inl rfl)
    · exact ds_mulR 34 3 256 rfl ⟨⟨⟨3, .data⟩, by simp, rfl, by kernel_rfl⟩, by kernel_rfl⟩ (fun _ _ h => isInt_of_nat h) (fun _ _ h => h)
    · exact ds_move 0 _ rfl (by kernel_rfl) rfl (fun _ => rfl)
    · exact ds_pick 36 5 256 (fun _ _ => by kernel_rfl) ⟨⟨⟨5, .data⟩, by simp, rfl, by kernel_rfl⟩, by kernel_rfl⟩ (fun _ _ h => h) rfl hPP (by omega) (fun _ _ h => h) hJC (.inl rfl)
    · exact ds_add2 35 37 4 6 rfl ⟨⟨⟨4, .data⟩, by simp, rfl, by kernel_rfl⟩, by kernel_rfl⟩ ⟨⟨⟨6, .data⟩, by simp, rfl, by kernel_rfl⟩, by kernel_rfl⟩ (fun _ _ h => h) (fun _ _ h => isInt_of_nat h) (fun _ _ h => h)
    · exact ds_move 5 _ rfl (by kernel_rfl) rfl (fun _ => rfl)
    · exact ds_addK 39 8 d 1 (d + 1) rfl ⟨⟨⟨8, .data⟩, by simp, rfl, by kernel_rfl⟩, by kernel_rfl⟩ (fun _ _ h => h) hd1w (fun _ _ h => h)
    · exact ds_rem2 38 40 7 9 (d + 1) hd1 rfl ⟨⟨⟨7, .data⟩, by simp, rfl, by kernel_rfl⟩, by kernel_rfl⟩ ⟨⟨⟨9, .data⟩, by simp, rfl, by kernel_rfl⟩, by kernel_rfl⟩ (fun _ _ h => h) (fun _ _ h => h) (fun _ _ h => h)
    · exact ds_add2 32 41 1 10 rfl ⟨⟨⟨1, .data⟩, by simp, rfl, by kernel_rfl⟩, by kernel_rfl⟩ ⟨⟨⟨10, .data⟩, by simp, rfl, by kernel_rfl⟩, by kernel_rfl⟩ (fun _ _ h => h) (fun _ _ h => h) (fun _ _ h => h)
    · exact ds_assign 42 11 rfl ⟨⟨⟨11, .data⟩, by simp, rfl, by kernel_rfl⟩, by kernel_rfl⟩ (fun _ _ h => h)
    · rintro vs w' ⟨hc, _⟩ hr hR
      obtain ⟨z, hz⟩ : IsInt (vs 12) := hR 12 4 (by kernel_rfl)
      have HP1 := Lib.hid hr
      have HC1 := Lib.hid hc
      simp only [putAll, Act.put, List.setIfInBounds_toArray, List.set_cons_zero, List.set_cons_succ]
      clear hr hc hR
      go_wp2
      go_ret
      exact ⟨_, rfl, ⟨z, hz⟩, HP1.out.mono (by omega), HC1.out⟩
end Go.Proofs.Ytnjoofpllhbccaa

/- The draw of bounds in others. No condition. -/
namespace Go.Proofs.Ytnjoofpllhbccaa
open Go.RowKit
set_option linter.unusedVariables false
set_option linter.unusedSimpArgs false
attribute [local go_sem] dg_cell dg_frozen dg_lt dg_lt1 dg_lt2 dg_ne dg_ne1 dg_ne2 dg_new dg_wen lt_s2 lt_s3 lt_s4 lt_s5 lt_s6

section
variable {ops : Array Oper} {Q : Exit → Act → World → Prop} {a0 : Act} {g PP : Nat} {c : Nat → Nat} {J : World → Prop} {F : Nat → Prop} {R : Nat → World → Value → Prop} {i : Nat} {o : Oper}
theorem ds_min (d1 d2 : Tmp) (k1 k2 : Nat) (hop : o.op = .call { callee := .builtin .min, args := #[.tmp d1, .tmp d2], argTypes := #[3, 3] }) (hty : o.type = 3) (h1 : Dep ops o k1 d1) (h2 : Dep ops o k2 d2) (hs1 : ∀ W v, R k1 W v → IsInt v) (hs2 : ∀ W v, R k2 W v → IsInt v) (hR : ∀ W v, IsInt v → R i W v) : DStep Try.prog ops Q a0 g PP c J F R i o := by
  intro a w p hp hJ hr hf hd
  obtain ⟨x, hx⟩ := hs1 _ _ (dep_of h1 hd)
  obtain ⟨y, hy⟩ := hs2 _ _ (dep_of h2 hd)
  refine op_val (v := .int .i64 (if y < x then y else x)) (w' := w) ?_ ⟨_, rfl, hR _ _ ⟨_, rfl⟩, hJ, hr.mono (by omega), Chg.refl _ _⟩
  unfold execOp
  simp only [hop, hty, resolve, invoke, builtin, Sem.run_bind, Sem.run_pure, Result.andThen_ok, List.map_toArray, List.map_cons, List.map_nil, hx, hy]
  simp [go_sem]
theorem ds_max (d1 d2 : Tmp) (k1 k2 : Nat) (hop : o.op = .call { callee := .builtin .max, args := #[.tmp d1, .tmp d2], argTypes := #[3, 3] }) (hty : o.type = 3) (h1 : Dep ops o k1 d1) (h2 : Dep ops o k2 d2) (hs1 : ∀ W v, R k1 W v → IsInt v) (hs2 : ∀ W v, R k2 W v → IsInt v) (hR : ∀ W v, IsInt v → R i W v) : DStep Try.prog ops Q a0 g PP c J F R i o := by
  intro a w p hp hJ hr hf hd
  obtain ⟨x, hx⟩ := hs1 _ _ (dep_of h1 hd)
  obtain ⟨y, hy⟩ := hs2 _ _ (dep_of h2 hd)
  refine op_val (v := .int .i64 (if x < y then y else x)) (w' := w) ?_ ⟨_, rfl, hR _ _ ⟨_, rfl⟩, hJ, hr.mono (by omega), Chg.refl _ _⟩
  unfold execOp
  simp only [hop, hty, resolve, invoke, builtin, Sem.run_bind, Sem.run_pure, Result.andThen_ok, List.map_toArray, List.map_cons, List.map_nil, hx, hy]
  simp [go_sem]
end
/-- What stands while bounds are drawn: three boxes. -/
def JI (g : Nat) (w : World) (W : World) : Prop := ChgG g w W ∧ BoxI w.heap.size W ∧ BoxI (w.heap.size + 1) W ∧ BoxI (w.heap.size + 1 + 1) W
theorem JI.cg {g : Nat} {w W W' : World} (h : JI g w W) (c : ChgG g W W') (hg : g < w.heap.size) : JI g w W' := ⟨h.1.trans c, h.2.1.chg c (by omega), h.2.2.1.chg c (by omega), h.2.2.2.chg c (by omega)⟩
theorem BoxI.new' (v0 v1 : Int) {t : Nat} {W : World} (h : t = W.heap.size) : BoxI t (W.alloc (.cells #[.int .i64 v0, .int .i64 v1] 32)) := by subst h; exact BoxI.new _ _

set_option maxRecDepth 100000 in
set_option maxHeartbeats 4000000 in
theorem innerG {g P : Nat} {lo hi : Int} {w : World} (h : RdLe w g P) (hp : P + 10 ≤ 1099511627776) :
    Calls Try.prog 126 #[.pointer (some ⟨g, 0, none⟩), .agg #[.int .i64 lo, .int .i64 hi]] w (RetG IsItv g (P + 10) w) := by
  have lt0 := h.lt
  obtain ⟨ne0, ne1, ne2, ne3, ne4, ne5⟩ : ¬ w.heap.size = g ∧ ¬ w.heap.size + 1 = g ∧ ¬ w.heap.size + 1 + 1 = g ∧ ¬ w.heap.size + 1 + 1 + 1 = g ∧ ¬ w.heap.size + 1 + 1 + 1 + 1 = g ∧ ¬ w.heap.size + 1 + 1 + 1 + 1 + 1 = g := by omega
  have HP := Lib.hid h; clear h
  obtain ⟨wd, hwd⟩ : ∃ d, IntKind.i64.wrap (hi - lo) = d := ⟨_, rfl⟩
  go_enter Try.func126, Try.ntmps126
  go_wp2_with fail
  try simp only [hwd]
  refine calls_let ?_
  intro E hE
  have hJE : JI g w E := ⟨by rw [hE]; (repeat (first | with_reducible exact ChgG.refl _ _ | with_reducible assumption | with_reducible refine chg_ext ?_ _ | with_reducible refine chg_al ?_ _ | with_reducible refine chg_drew ?_ | with_reducible refine chg_set ?_ (by (focus (first | ((repeat (first | with_reducible assumption | omega | with_reducible exact dg_gt _ | (simp only [World.size_alloc, World.size_setCell, World.size_drew]) | with_reducible apply Nat.lt_succ_of_lt | with_reducible apply dg_lt | with_reducible apply le_pl | with_reducible apply dg_le)); done) | assumption | omega | (simp only [World.size_alloc, World.size_setCell, World.size_drew]; first | done | omega | (repeat (first | with_reducible assumption | with_reducible exact dg_gt _ | with_reducible apply Nat.lt_succ_of_lt | with_reducible apply dg_lt | with_reducible apply le_pl | with_reducible apply Nat.le_trans ?_ (dg_size _))))))) _)), by rw [hE]; exact BoxI.al (BoxI.al (BoxI.new _ _) _) _, by rw [hE]; exact BoxI.al (BoxI.new' _ _ (by simp only [World.size_alloc])) _, by rw [hE]; exact BoxI.new' _ _ (by simp only [World.size_alloc])⟩
  have hrE : RdLe E g P := by rw [hE]; have := HP.out; (repeat (first | with_reducible assumption | with_reducible exact rd_ext _ | with_reducible exact Hid.out (by assumption) | with_reducible apply rd_al | with_reducible apply rd_drew | (with_reducible apply rd_set; rotate_left; (focus (first | ((repeat (first | with_reducible assumption | omega | with_reducible exact dg_gt _ | (simp only [World.size_alloc, World.size_setCell, World.size_drew]) | with_reducible apply Nat.lt_succ_of_lt | with_reducible apply dg_lt | with_reducible apply le_pl | with_reducible apply dg_le)); done) | assumption | omega | (simp only [World.size_alloc, World.size_setCell, World.size_drew]; first | done | omega | (repeat (first | with_reducible assumption | with_reducible exact dg_gt _ | with_reducible apply Nat.lt_succ_of_lt | with_reducible apply dg_lt | with_reducible apply le_pl | with_reducible apply Nat.le_trans ?_ (dg_size _)))))))))
  clear hE HP hwd
  refine Calls.mono (pickG (k := 2) hrE (by omega) (by omega)) ?_
  rintro e w1 ⟨v, rfl, ⟨s1, rfl, _⟩, hr1, hc1⟩
  have HJ1 := Lib.hid (hJE.cg hc1 lt0)
  have HR1 := Lib.hid (hr1.mono (show P + 1 ≤ P + 1 by omega))
  have hJC : ∀ W W', JI g w W → ChgG g W W' → JI g w W' := fun W W' h c => h.cg c lt0
  clear hJE hrE hr1 hc1
  by_cases hs1 : s1 = 0
  · subst hs1
    go_wp2_with fail
    have hPP : P + 1 + 2 ≤ 1099511627776 := by omega
    refine region_drawL g (P + 1) 2 45 [0, 0, 0, 0, 1, 0, 1, 0, 0, 0, 0, 0] (JI g w) (fun b => b = g ∨ b = w.heap.size + 1 + 1)
      [prV (fun v => v = .pointer (some ⟨w.heap.size, 0, none⟩)), prV IsInt, prV IsInt, prV (fun v => v = .pointer (some ⟨g, 0, none⟩)), prV (IsNat 4), prV (fun v => v = .pointer (some ⟨g, 0, none⟩)), prV (IsNat 200), prV IsInt, prV IsInt, prV IsInt, prV (fun v => v = .pointer (some ⟨w.heap.size + 1 + 1, 0, none⟩)), prT]
      (by kernel_rfl) rfl (by kernel_rfl) (by kernel_rfl) (HJ1.out.cg (chg_drew (ChgG.refl _ _)) lt0) HR1.out ⟨?_, ?_, ?_, ?_, ?_, ?_, ?_, ?_, ?_, ?_, ?_, ?_, trivial⟩ ?_
    · exact ds_field 3 0 _ _ rfl (by kernel_rfl) rfl (fun W => by kernel_rfl) (fun _ => rfl)
    · exact ds_loadB 16 0 _ rfl ⟨⟨⟨0, .data⟩, by simp, rfl, by kernel_rfl⟩, by kernel_rfl⟩ (fun _ _ h => h) (fun W h => h.2.1.get0) (fun _ _ h => h)
    · exact ds_move 6 _ rfl (by kernel_rfl) rfl (fun _ => ⟨_, rfl⟩)
    · exact ds_move 0 _ rfl (by kernel_rfl) rfl (fun _ => rfl)
    · exact ds_pick 19 3 4 (fun _ _ => by kernel_rfl) ⟨⟨⟨3, .data⟩, by simp, rfl, by kernel_rfl⟩, by kernel_rfl⟩ (fun _ _ h => h) rfl hPP (by omega) (fun _ _ h => h) hJC (.inl rfl)
    · exact ds_move 0 _ rfl (by kernel_rfl) rfl (fun _ => rfl)
    · exact ds_pick 21 5 200 (fun _ _ => by kernel_rfl) ⟨⟨⟨5, .data⟩, by simp, rfl, by kernel_rfl⟩, by kernel_rfl⟩ (fun _ _ h => h) rfl hPP (by omega) (fun _ _ h => h) hJC (.inl rfl)
    · exact ds_mul2 20 22 4 6 rfl ⟨⟨⟨4, .data⟩, by simp, rfl, by kernel_rfl⟩, by kernel_rfl⟩ ⟨⟨⟨6, .data⟩, by simp, rfl, by kernel_rfl⟩, by kernel_rfl⟩ (fun _ _ h => isInt_of_nat h) (fun _ _ h => isInt_of_nat h) (fun _ _ h => h)
    · exact ds_min 18 23 2 7 rfl rfl ⟨⟨⟨2, .data⟩, by simp, rfl, by kernel_rfl⟩, by kernel_rfl⟩ ⟨⟨⟨7, .data⟩, by simp, rfl, by kernel_rfl⟩, by kernel_rfl⟩ (fun _ _ h => h) (fun _ _ h => h) (fun _ _ h => h)
    · exact ds_add2 17 24 1 8 rfl ⟨⟨⟨1, .data⟩, by simp, rfl, by kernel_rfl⟩, by kernel_rfl⟩ ⟨⟨⟨8, .data⟩, by simp, rfl, by kernel_rfl⟩, by kernel_rfl⟩ (fun _ _ h => h) (fun _ _ h => h) (fun _ _ h => h)
    · exact ds_field 5 0 _ _ rfl (by kernel_rfl) rfl (fun W => by kernel_rfl) (fun _ => rfl)
    · exact ds_storeI ⟨w.heap.size + 1 + 1, 0, none⟩ 26 10 25 9 rfl ⟨⟨⟨10, .data⟩, by simp, rfl, by kernel_rfl⟩, by kernel_rfl⟩ ⟨⟨⟨9, .data⟩, by simp, rfl, by kernel_rfl⟩, by kernel_rfl⟩ (fun _ _ h => h) (fun _ _ h => h) (fun W h => by obtain ⟨u0, u1, hb⟩ := h.2.2.2; exact ⟨_, hb.cell 0, hb.frozen 0, rfl⟩) (fun W y h => ⟨chg_set h.1 (by simp only; omega) _, h.2.1.far (by simp only; omega) _, h.2.2.1.far (by simp only; omega) _, h.2.2.2.set0 y⟩) (by simp only; omega) (.inr rfl) (fun _ _ => trivial)
    · rintro vs w5 hJ5 hr5 hR
      have HJ1 := Lib.hid hJ5
      have HR1 := Lib.hid (hr5.mono (show P + 1 + 2 ≤ P + 3 by omega))
      clear hr5 hR hJ5
      simp only [putAll, Act.put, List.setIfInBounds_toArray, List.set_cons_zero, List.set_cons_succ]
      go_wp2_with fail
      refine Calls.mono (pickG (k := 2) HR1.out (by omega) (by omega)) ?_
      rintro e w6 ⟨v, rfl, ⟨s2, rfl, _⟩, hr6, hc6⟩
      have HJ6 := Lib.hid (HJ1.out.cg hc6 lt0)
      have HR6 := Lib.hid (hr6.mono (show P + 3 + 1 ≤ P + 4 by omega))
      clear hr6 hc6 HJ1 HR1
      by_cases hs2 : s2 = 0
      · subst hs2
        go_wp2_with fail
        have hPP : P + 4 + 2 ≤ 1099511627776 := by omega
        refine region_drawL g (P + 4) 2 45 [0, 0, 0, 0, 0, 0, 1, 0, 1, 0, 0, 0, 0, 0, 0] (JI g w) (fun b => b = g ∨ b = w.heap.size + 1 + 1)
          [prV (fun v => v = .pointer (some ⟨w.heap.size + 1 + 1, 0, none⟩)), prV IsInt, prV (fun v => v = .pointer (some ⟨w.heap.size, 1, none⟩)), prV IsInt, prV IsInt, prV (fun v => v = .pointer (some ⟨g, 0, none⟩)), prV (IsNat 4), prV (fun v => v = .pointer (some ⟨g, 0, none⟩)), prV (IsNat 200), prV IsInt, prV IsInt, prV IsInt, prV IsInt, prV (fun v => v = .pointer (some ⟨w.heap.size + 1 + 1, 1, none⟩)), prT]
          (by kernel_rfl) rfl (by kernel_rfl) (by kernel_rfl) (HJ6.out.cg (chg_drew (ChgG.refl _ _)) lt0) HR6.out ⟨?_, ?_, ?_, ?_, ?_, ?_, ?_, ?_, ?_, ?_, ?_, ?_, ?_, ?_, ?_, trivial⟩ ?_
        · exact ds_field 5 0 _ _ rfl (by kernel_rfl) rfl (fun W => by kernel_rfl) (fun _ => rfl)
        · exact ds_loadB 30 0 _ rfl ⟨⟨⟨0, .data⟩, by simp, rfl, by kernel_rfl⟩, by kernel_rfl⟩ (fun _ _ h => h) (fun W h => h.2.2.2.get0) (fun _ _ h => h)
        · exact ds_field 3 1 _ _ rfl (by kernel_rfl) rfl (fun W => by kernel_rfl) (fun _ => rfl)
        · exact ds_loadB 32 2 _ rfl ⟨⟨⟨2, .data⟩, by simp, rfl, by kernel_rfl⟩, by kernel_rfl⟩ (fun _ _ h => h) (fun W h => h.2.1.get1) (fun _ _ h => h)
        · exact ds_move 6 _ rfl (by kernel_rfl) rfl (fun _ => ⟨_, rfl⟩)
        · exact ds_move 0 _ rfl (by kernel_rfl) rfl (fun _ => rfl)
        · exact ds_pick 35 5 4 (fun _ _ => by kernel_rfl) ⟨⟨⟨5, .data⟩, by simp, rfl, by kernel_rfl⟩, by kernel_rfl⟩ (fun _ _ h => h) rfl hPP (by omega) (fun _ _ h => h) hJC (.inl rfl)
        · exact ds_move 0 _ rfl (by kernel_rfl) rfl (fun _ => rfl)
        · exact ds_pick 37 7 200 (fun _ _ => by kernel_rfl) ⟨⟨⟨7, .data⟩, by simp, rfl, by kernel_rfl⟩, by kernel_rfl⟩ (fun _ _ h => h) rfl hPP (by omega) (fun _ _ h => h) hJC (.inl rfl)
        · exact ds_mul2 36 38 6 8 rfl ⟨⟨⟨6, .data⟩, by simp, rfl, by kernel_rfl⟩, by kernel_rfl⟩ ⟨⟨⟨8, .data⟩, by simp, rfl, by kernel_rfl⟩, by kernel_rfl⟩ (fun _ _ h => isInt_of_nat h) (fun _ _ h => isInt_of_nat h) (fun _ _ h => h)
        · exact ds_min 34 39 4 9 rfl rfl ⟨⟨⟨4, .data⟩, by simp, rfl, by kernel_rfl⟩, by kernel_rfl⟩ ⟨⟨⟨9, .data⟩, by simp, rfl, by kernel_rfl⟩, by kernel_rfl⟩ (fun _ _ h => h) (fun _ _ h => h) (fun _ _ h => h)
        · exact ds_sub2 33 40 3 10 rfl ⟨⟨⟨3, .data⟩, by simp, rfl, by kernel_rfl⟩, by kernel_rfl⟩ ⟨⟨⟨10, .data⟩, by simp, rfl, by kernel_rfl⟩, by kernel_rfl⟩ (fun _ _ h => h) (fun _ _ h => h) (fun _ _ h => h)
        · exact ds_max 31 41 1 11 rfl rfl ⟨⟨⟨1, .data⟩, by simp, rfl, by kernel_rfl⟩, by kernel_rfl⟩ ⟨⟨⟨11, .data⟩, by simp, rfl, by kernel_rfl⟩, by kernel_rfl⟩ (fun _ _ h => h) (fun _ _ h => h) (fun _ _ h => h)
        · exact ds_field 5 1 _ _ rfl (by kernel_rfl) rfl (fun W => by kernel_rfl) (fun _ => rfl)
        · exact ds_storeI ⟨w.heap.size + 1 + 1, 1, none⟩ 43 13 42 12 rfl ⟨⟨⟨13, .data⟩, by simp, rfl, by kernel_rfl⟩, by kernel_rfl⟩ ⟨⟨⟨12, .data⟩, by simp, rfl, by kernel_rfl⟩, by kernel_rfl⟩ (fun _ _ h => h) (fun _ _ h => h) (fun W h => by obtain ⟨u0, u1, hb⟩ := h.2.2.2; exact ⟨_, hb.cell 1, hb.frozen 1, rfl⟩) (fun W y h => ⟨chg_set h.1 (by simp only; omega) _, h.2.1.far (by simp only; omega) _, h.2.2.1.far (by simp only; omega) _, h.2.2.2.set1 y⟩) (by simp only; omega) (.inr rfl) (fun _ _ => trivial)
        · rintro vs w5 hJ5 hr5 hR
          have HJ6 := Lib.hid hJ5
          have HR6 := Lib.hid (hr5.mono (show P + 4 + 2 ≤ P + 6 by omega))
          clear hr5 hR hJ5
          simp only [putAll, Act.put, List.setIfInBounds_toArray, List.set_cons_zero, List.set_cons_succ]
          obtain ⟨_, _, ⟨u0, u1, hb⟩, x0, x1, hx⟩ := HJ6.out
          have c0 : w5.cell? ⟨w.heap.size + 1 + 1, 0, none⟩ = some (.int .i64 x0) := hx.cell 0
          have c1 : w5.cell? ⟨w.heap.size + 1 + 1, 1, none⟩ = some (.int .i64 x1) := hx.cell 1
          have z0 : w5.cell? ⟨w.heap.size + 1, 0, none⟩ = some (.int .i64 u0) := hb.cell 0
          have z1 : w5.cell? ⟨w.heap.size + 1, 1, none⟩ = some (.int .i64 u1) := hb.cell 1
          have zf := fun j => hb.frozen j
          have zl := hb.lt
          clear hb hx
          go_wp2
          refine bodyPost_ret (by simp [results, Try.results126, go_sem, z0, z1, zl]; try rfl) rfl ?_
          exact ⟨_, rfl, ⟨_, _, rfl⟩, (rd_set (rd_set HR6.out (by simp only; omega) _) (by simp only; omega) _).mono (by omega), chg_set (chg_set HJ6.out.1 (by simp only; omega) _) (by simp only; omega) _⟩
      · have q2 : ((s2 : Int) == 0) = false := beq_eq_false_iff_ne.2 (by omega)
        obtain ⟨_, _, ⟨u0, u1, hb⟩, x0, x1, hx⟩ := HJ6.out
        have c0 : w6.cell? ⟨w.heap.size + 1 + 1, 0, none⟩ = some (.int .i64 x0) := hx.cell 0
        have c1 : w6.cell? ⟨w.heap.size + 1 + 1, 1, none⟩ = some (.int .i64 x1) := hx.cell 1
        have z0 : w6.cell? ⟨w.heap.size + 1, 0, none⟩ = some (.int .i64 u0) := hb.cell 0
        have z1 : w6.cell? ⟨w.heap.size + 1, 1, none⟩ = some (.int .i64 u1) := hb.cell 1
        have zf := fun j => hb.frozen j
        have zl := hb.lt
        clear hb hx
        go_wp2
        refine bodyPost_ret (by simp [results, Try.results126, go_sem, z0, z1, zl]; try rfl) rfl ?_
        exact ⟨_, rfl, ⟨_, _, rfl⟩, (rd_set (rd_set HR6.out (by simp only; omega) _) (by simp only; omega) _).mono (by omega), chg_set (chg_set HJ6.out.1 (by simp only; omega) _) (by simp only; omega) _⟩
  · have q1 : ((s1 : Int) == 0) = false := beq_eq_false_iff_ne.2 (by omega)
    go_wp2_with fail
    refine Calls.mono (pickG (k := 2) HR1.out (by omega) (by omega)) ?_
    rintro e w6 ⟨v, rfl, ⟨s2, rfl, _⟩, hr6, hc6⟩
    have HJ6 := Lib.hid (HJ1.out.cg hc6 lt0)
    have HR6 := Lib.hid (hr6.mono (show P + 1 + 1 ≤ P + 4 by omega))
    clear hr6 hc6 HJ1 HR1
    by_cases hs2 : s2 = 0
    · subst hs2
      go_wp2_with fail
      have hPP : P + 4 + 2 ≤ 1099511627776 := by omega
      refine region_drawL g (P + 4) 2 45 [0, 0, 0, 0, 0, 0, 1, 0, 1, 0, 0, 0, 0, 0, 0] (JI g w) (fun b => b = g ∨ b = w.heap.size + 1 + 1)
        [prV (fun v => v = .pointer (some ⟨w.heap.size + 1 + 1, 0, none⟩)), prV IsInt, prV (fun v => v = .pointer (some ⟨w.heap.size, 1, none⟩)), prV IsInt, prV IsInt, prV (fun v => v = .pointer (some ⟨g, 0, none⟩)), prV (IsNat 4), prV (fun v => v = .pointer (some ⟨g, 0, none⟩)), prV (IsNat 200), prV IsInt, prV IsInt, prV IsInt, prV IsInt, prV (fun v => v = .pointer (some ⟨w.heap.size + 1 + 1, 1, none⟩)), prT]
        (by kernel_rfl) rfl (by kernel_rfl) (by kernel_rfl) (HJ6.out.cg (chg_drew (ChgG.refl _ _)) lt0) HR6.out ⟨?_, ?_, ?_, ?_, ?_, ?_, ?_, ?_, ?_, ?_, ?_, ?_, ?_, ?_, ?_, trivial⟩ ?_
      · exact ds_field 5 0 _ _ rfl (by kernel_rfl) rfl (fun W => by kernel_rfl) (fun _ => rfl)
      · exact ds_loadB 30 0 _ rfl ⟨⟨⟨0, .data⟩, by simp, rfl, by kernel_rfl⟩, by kernel_rfl⟩ (fun _ _ h => h) (fun W h => h.2.2.2.get0) (fun _ _ h => h)
      · exact ds_field 3 1 _ _ rfl (by kernel_rfl) rfl (fun W => by kernel_rfl) (fun _ => rfl)
      · exact ds_loadB 32 2 _ rfl ⟨⟨⟨2, .data⟩, by simp, rfl, by kernel_rfl⟩, by kernel_rfl⟩ (fun _ _ h => h) (fun W h => h.2.1.get1) (fun _ _ h => h)
      · exact ds_move 6 _ rfl (by kernel_rfl) rfl (fun _ => ⟨_, rfl⟩)
      · exact ds_move 0 _ rfl (by kernel_rfl) rfl (fun _ => rfl)
      · exact ds_pick 35 5 4 (fun _ _ => by kernel_rfl) ⟨⟨⟨5, .data⟩, by simp, rfl, by kernel_rfl⟩, by kernel_rfl⟩ (fun _ _ h => h) rfl hPP (by omega) (fun _ _ h => h) hJC (.inl rfl)
      · exact ds_move 0 _ rfl (by kernel_rfl) rfl (fun _ => rfl)
      · exact ds_pick 37 7 200 (fun _ _ => by kernel_rfl) ⟨⟨⟨7, .data⟩, by simp, rfl, by kernel_rfl⟩, by kernel_rfl⟩ (fun _ _ h => h) rfl hPP (by omega) (fun _ _ h => h) hJC (.inl rfl)
      · exact ds_mul2 36 38 6 8 rfl ⟨⟨⟨6, .data⟩, by simp, rfl, by kernel_rfl⟩, by kernel_rfl⟩ ⟨⟨⟨8, .data⟩, by simp, rfl, by kernel_rfl⟩, by kernel_rfl⟩ (fun _ _ h => isInt_of_nat h) (fun _ _ h => isInt_of_nat h) (fun _ _ h => h)
      · exact ds_min 34 39 4 9 rfl rfl ⟨⟨⟨4, .data⟩, by simp, rfl, by kernel_rfl⟩, by kernel_rfl⟩ ⟨⟨⟨9, .data⟩, by simp, rfl, by kernel_rfl⟩, by kernel_rfl⟩ (fun _ _ h => h) (fun _ _ h => h) (fun _ _ h => h)
      · exact ds_sub2 33 40 3 10 rfl ⟨⟨⟨3, .data⟩, by simp, rfl, by kernel_rfl⟩, by kernel_rfl⟩ ⟨⟨⟨10, .data⟩, by simp, rfl, by kernel_rfl⟩, by kernel_rfl⟩ (fun _ _ h => h) (fun _ _ h => h) (fun _ _ h => h)
      · exact ds_max 31 41 1 11 rfl rfl ⟨⟨⟨1, .data⟩, by simp, rfl, by kernel_rfl⟩, by kernel_rfl⟩ ⟨⟨⟨11, .data⟩, by simp, rfl, by kernel_rfl⟩, by kernel_rfl⟩ (fun _ _ h => h) (fun _ _ h => h) (fun _ _ h => h)
      · exact ds_field 5 1 _ _ rfl (by kernel_rfl) rfl (fun W => by kernel_rfl) (fun _ => rfl)
      · exact ds_storeI ⟨w.heap.size + 1 + 1, 1, none⟩ 43 13 42 12 rfl ⟨⟨⟨13, .data⟩, by simp, rfl, by kernel_rfl⟩, by kernel_rfl⟩ ⟨⟨⟨12, .data⟩, by simp, rfl, by kernel_rfl⟩, by kernel_rfl⟩ (fun _ _ h => h) (fun _ _ h => h) (fun W h => by obtain ⟨u0, u1, hb⟩ := h.2.2.2; exact ⟨_, hb.cell 1, hb.frozen 1, rfl⟩) (fun W y h => ⟨chg_set h.1 (by simp only; omega) _, h.2.1.far (by simp only; omega) _, h.2.2.1.far (by simp only; omega) _, h.2.2.2.set1 y⟩) (by simp only; omega) (.inr rfl) (fun _ _ => trivial)
      · rintro vs w5 hJ5 hr5 hR
        have HJ6 := Lib.hid hJ5
        have HR6 := Lib.hid (hr5.mono (show P + 4 + 2 ≤ P + 6 by omega))
        clear hr5 hR hJ5
        simp only [putAll, Act.put, List.setIfInBounds_toArray, List.set_cons_zero, List.set_cons_succ]
        obtain ⟨_, _, ⟨u0, u1, hb⟩, x0, x1, hx⟩ := HJ6.out
        have c0 : w5.cell? ⟨w.heap.size + 1 + 1, 0, none⟩ = some (.int .i64 x0) := hx.cell 0
        have c1 : w5.cell? ⟨w.heap.size + 1 + 1, 1, none⟩ = some (.int .i64 x1) := hx.cell 1
        have z0 : w5.cell? ⟨w.heap.size + 1, 0, none⟩ = some (.int .i64 u0) := hb.cell 0
        have z1 : w5.cell? ⟨w.heap.size + 1, 1, none⟩ = some (.int .i64 u1) := hb.cell 1
        have zf := fun j => hb.frozen j
        have zl := hb.lt
        clear hb hx
        go_wp2
        refine bodyPost_ret (by simp [results, Try.results126, go_sem, z0, z1, zl]; try rfl) rfl ?_
        exact ⟨_, rfl, ⟨_, _, rfl⟩, (rd_set (rd_set HR6.out (by simp only; omega) _) (by simp only; omega) _).mono (by omega), chg_set (chg_set HJ6.out.1 (by simp only; omega) _) (by simp only; omega) _⟩
    · have q2 : ((s2 : Int) == 0) = false := beq_eq_false_iff_ne.2 (by omega)
      obtain ⟨_, _, ⟨u0, u1, hb⟩, x0, x1, hx⟩ := HJ6.out
      have c0 : w6.cell? ⟨w.heap.size + 1 + 1, 0, none⟩ = some (.int .i64 x0) := hx.cell 0
      have c1 : w6.cell? ⟨w.heap.size + 1 + 1, 1, none⟩ = some (.int .i64 x1) := hx.cell 1
      have z0 : w6.cell? ⟨w.heap.size + 1, 0, none⟩ = some (.int .i64 u0) := hb.cell 0
      have z1 : w6.cell? ⟨w.heap.size + 1, 1, none⟩ = some (.int .i64 u1) := hb.cell 1
      have zf := fun j => hb.frozen j
      have zl := hb.lt
      clear hb hx
      go_wp2
      refine bodyPost_ret (by simp [results, Try.results126, go_sem, z0, z1, zl]; try rfl) rfl ?_
      exact ⟨_, rfl, ⟨_, _, rfl⟩, (rd_set (rd_set HR6.out (by simp only; omega) _) (by simp only; omega) _).mono (by omega), chg_set (chg_set HJ6.out.1 (by simp only; omega) _) (by simp only; omega) _⟩
end Go.Proofs.Ytnjoofpllhbccaa
