/- Lemmas and walks of this proof, some texts one behind the other. No condition. -/
import Derived.Test.YtpmfpgbpndobpaaGreatDrP
import Derived.Test.YtpmfpgbpndobpaaGreatDrH
import Derived.Test.YtpmfpgbpndobpaaGreatDrG
set_option linter.unusedSimpArgs false
set_option linter.unusedVariables false
/- The draw of a procedure for AbsEntry. No condition. -/
namespace Go.Proofs.YtpmfpgbpndobpaaGreat
open Go.RowKit
set_option linter.unusedVariables false
set_option linter.unusedSimpArgs false
attribute [local go_sem] dg_cell dg_frozen dg_lt dg_lt1 dg_lt2 dg_ne dg_ne1 dg_ne2 dg_new dg_wen lt_s2 lt_s3 lt_s4 lt_s5 lt_s6

section
variable {ops : Array Oper} {Q : Exit → Act → World → Prop} {a0 : Act} {g PP : Nat} {c : Nat → Nat} {J : World → Prop} {F : Nat → Prop} {R : Nat → World → Value → Prop} {i : Nat} {o : Oper}
theorem ds_storeI (ad : Addr) (d1 k1 d2 k2 : Nat) (hop : o.op = .store 3 (.tmp d1) (.tmp d2)) (h1 : Dep ops o k1 d1) (h2 : Dep ops o k2 d2) (hs1 : ∀ W v, R k1 W v → v = .pointer (some ad)) (hs2 : ∀ W v, R k2 W v → IsInt v)
    (hJ : ∀ W, J W → ∃ x, W.cell? ad = some x ∧ W.frozen? ad = false ∧ x.oneCell' = true) (hJ2 : ∀ W (y : Int), J W → J (W.setCell ad (.int .i64 y))) (hg : g < ad.block) (hF : F ad.block) (hR : ∀ W v, R i W v) : DStep Tryz.prog ops Q a0 g PP c J F R i o := by
  intro a w p hp hJ1 hr hf hd
  have e1 := hs1 _ _ (dep_of h1 hd)
  obtain ⟨y, e2⟩ := hs2 _ _ (dep_of h2 hd)
  obtain ⟨x, hx, hfz, hone⟩ := hJ w hJ1
  refine op_skip (w' := w.setCell ad (.int .i64 y)) ?_ ⟨_, rfl, hR _ _, hJ2 _ _ hJ1, (rd_set hr hg _).mono (by omega), ⟨rfl, rfl, rfl, by simp, fun k hk hn => Below.heap_setCell w ad _ k (fun e => hn (e ▸ hF))⟩⟩
  simp only [execOp, hop, e1, e2]
  simp [go_sem, hx, hfz]
end

end Go.Proofs.YtpmfpgbpndobpaaGreat

/- The draw of a number in bounds. No condition. -/
namespace Go.Proofs.YtpmfpgbpndobpaaGreat
open Go.RowKit
set_option linter.unusedVariables false
set_option linter.unusedSimpArgs false
attribute [local go_sem] dg_cell dg_frozen dg_lt dg_lt1 dg_lt2 dg_ne dg_ne1 dg_ne2 dg_new dg_wen lt_s2 lt_s3 lt_s4 lt_s5 lt_s6

section
variable {ops : Array Oper} {Q : Exit → Act → World → Prop} {a0 : Act} {g PP : Nat} {c : Nat → Nat} {J : World → Prop} {F : Nat → Prop} {R : Nat → World → Value → Prop} {i : Nat} {o : Oper}
theorem ds_add2 (d1 d2 : Tmp) (k1 k2 : Nat) (hop : o.op = .binOp .add 3 (.tmp d1) (.tmp d2) 3) (h1 : Dep ops o k1 d1) (h2 : Dep ops o k2 d2) (hs1 : ∀ W v, R k1 W v → IsInt v) (hs2 : ∀ W v, R k2 W v → IsInt v) (hR : ∀ W v, IsInt v → R i W v) : DStep Tryz.prog ops Q a0 g PP c J F R i o := by
  intro a w p hp hJ hr hf hd
  obtain ⟨x, hx⟩ := hs1 _ _ (dep_of h1 hd)
  obtain ⟨y, hy⟩ := hs2 _ _ (dep_of h2 hd)
  refine op_val (v := .int .i64 (IntKind.i64.wrap (x + y))) (w' := w) ?_ ⟨_, rfl, hR _ _ ⟨_, rfl⟩, hJ, hr.mono (by omega), Chg.refl _ _⟩
  simp only [execOp, hop, hx, hy, eval_const]
  simp [go_sem]
  try rfl
theorem ds_mul2 (d1 d2 : Tmp) (k1 k2 : Nat) (hop : o.op = .binOp .mul 3 (.tmp d1) (.tmp d2) 3) (h1 : Dep ops o k1 d1) (h2 : Dep ops o k2 d2) (hs1 : ∀ W v, R k1 W v → IsInt v) (hs2 : ∀ W v, R k2 W v → IsInt v) (hR : ∀ W v, IsInt v → R i W v) : DStep Tryz.prog ops Q a0 g PP c J F R i o := by
  intro a w p hp hJ hr hf hd
  obtain ⟨x, hx⟩ := hs1 _ _ (dep_of h1 hd)
  obtain ⟨y, hy⟩ := hs2 _ _ (dep_of h2 hd)
  refine op_val (v := .int .i64 (IntKind.i64.wrap (x * y))) (w' := w) ?_ ⟨_, rfl, hR _ _ ⟨_, rfl⟩, hJ, hr.mono (by omega), Chg.refl _ _⟩
  simp only [execOp, hop, hx, hy, eval_const]
  simp [go_sem]
  try rfl
theorem ds_sub2 (d1 d2 : Tmp) (k1 k2 : Nat) (hop : o.op = .binOp .sub 3 (.tmp d1) (.tmp d2) 3) (h1 : Dep ops o k1 d1) (h2 : Dep ops o k2 d2) (hs1 : ∀ W v, R k1 W v → IsInt v) (hs2 : ∀ W v, R k2 W v → IsInt v) (hR : ∀ W v, IsInt v → R i W v) : DStep Tryz.prog ops Q a0 g PP c J F R i o := by
  intro a w p hp hJ hr hf hd
  obtain ⟨x, hx⟩ := hs1 _ _ (dep_of h1 hd)
  obtain ⟨y, hy⟩ := hs2 _ _ (dep_of h2 hd)
  refine op_val (v := .int .i64 (IntKind.i64.wrap (x - y))) (w' := w) ?_ ⟨_, rfl, hR _ _ ⟨_, rfl⟩, hJ, hr.mono (by omega), Chg.refl _ _⟩
  simp only [execOp, hop, hx, hy, eval_const]
  simp [go_sem]
  try rfl
end
end Go.Proofs.YtpmfpgbpndobpaaGreat

/- The draw of bounds in others. No condition. -/
namespace Go.Proofs.YtpmfpgbpndobpaaGreat
open Go.RowKit
set_option linter.unusedVariables false
set_option linter.unusedSimpArgs false
attribute [local go_sem] dg_cell dg_frozen dg_lt dg_lt1 dg_lt2 dg_ne dg_ne1 dg_ne2 dg_new dg_wen lt_s2 lt_s3 lt_s4 lt_s5 lt_s6

section
variable {ops : Array Oper} {Q : Exit → Act → World → Prop} {a0 : Act} {g PP : Nat} {c : Nat → Nat} {J : World → Prop} {F : Nat → Prop} {R : Nat → World → Value → Prop} {i : Nat} {o : Oper}
theorem ds_min (d1 d2 : Tmp) (k1 k2 : Nat) (hop : o.op = .call { callee := .builtin .min, args := #[.tmp d1, .tmp d2], argTypes := #[3, 3] }) (hty : o.type = 3) (h1 : Dep ops o k1 d1) (h2 : Dep ops o k2 d2) (hs1 : ∀ W v, R k1 W v → IsInt v) (hs2 : ∀ W v, R k2 W v → IsInt v) (hR : ∀ W v, IsInt v → R i W v) : DStep Tryz.prog ops Q a0 g PP c J F R i o := by
  intro a w p hp hJ hr hf hd
  obtain ⟨x, hx⟩ := hs1 _ _ (dep_of h1 hd)
  obtain ⟨y, hy⟩ := hs2 _ _ (dep_of h2 hd)
  refine op_val (v := .int .i64 (if y < x then y else x)) (w' := w) ?_ ⟨_, rfl, hR _ _ ⟨_, rfl⟩, hJ, hr.mono (by omega), Chg.refl _ _⟩
  unfold execOp
  simp only [hop, hty, resolve, invoke, builtin, Sem.run_bind, Sem.run_pure, Result.andThen_ok, List.map_toArray, List.map_cons, List.map_nil, hx, hy]
  simp [go_sem]
theorem ds_max (d1 d2 : Tmp) (k1 k2 : Nat) (hop : o.op = .call { callee := .builtin .max, args := #[.tmp d1, .tmp d2], argTypes := #[3, 3] }) (hty : o.type = 3) (h1 : Dep ops o k1 d1) (h2 : Dep ops o k2 d2) (hs1 : ∀ W v, R k1 W v → IsInt v) (hs2 : ∀ W v, R k2 W v → IsInt v) (hR : ∀ W v, IsInt v → R i W v) : DStep Tryz.prog ops Q a0 g PP c J F R i o := by
  intro a w p hp hJ hr hf hd
  obtain ⟨x, hx⟩ := hs1 _ _ (dep_of h1 hd)
  obtain ⟨y, hy⟩ := hs2 _ _ (dep_of h2 hd)
  refine op_val (v := .int .i64 (if x < y then y else x)) (w' := w) ?_ ⟨_, rfl, hR _ _ ⟨_, rfl⟩, hJ, hr.mono (by omega), Chg.refl _ _⟩
  unfold execOp
  simp only [hop, hty, resolve, invoke, builtin, Sem.run_bind, Sem.run_pure, Result.andThen_ok, List.map_toArray, List.map_cons, List.map_nil, hx, hy]
  simp [go_sem]
end
/-- What stands while bounds are drawn: three boxes. -/
def JI (g : Nat) (w : World) (W : World) : Prop := ChgG g w W ∧ BoxI w.heap.size W ∧ BoxI (w.heap.size + 1) W ∧ BoxI (w.heap.size + 1 + 1) W
theorem JI.cg {g : Nat} {w W W' : World} (h : JI g w W) (c : ChgG g W W') (hg : g < w.heap.size) : JI g w W' := ⟨h.1.trans c, h.2.1.chg c (by omega), h.2.2.1.chg c (by omega), h.2.2.2.chg c (by omega)⟩
theorem BoxI.new' (v0 v1 : Int) {t : Nat} {W : World} (h : t = W.heap.size) : BoxI t (W.alloc (.cells #[.int .i64 v0, .int .i64 v1] 31)) := by subst h; exact BoxI.new _ _

set_option maxRecDepth 100000 in
set_option maxHeartbeats 4000000 in
theorem innerG {g P : Nat} {lo hi : Int} {w : World} (h : RdLe w g P) (hp : P + 10 ≤ 1099511627776) :
    Calls Tryz.prog 112 #[.pointer (some ⟨g, 0, none⟩), .agg #[.int .i64 lo, .int .i64 hi]] w (RetG IsItv g (P + 10) w) := by
  have lt0 := h.lt
  obtain ⟨ne0, ne1, ne2, ne3, ne4, ne5⟩ : ¬ w.heap.size = g ∧ ¬ w.heap.size + 1 = g ∧ ¬ w.heap.size + 1 + 1 = g ∧ ¬ w.heap.size + 1 + 1 + 1 = g ∧ ¬ w.heap.size + 1 + 1 + 1 + 1 = g ∧ ¬ w.heap.size + 1 + 1 + 1 + 1 + 1 = g := by omega
  have HP := Lib.hid h; clear h
  obtain ⟨wd, hwd⟩ : ∃ d, IntKind.i64.wrap (hi - lo) = d := ⟨_, rfl⟩
  go_enter Tryz.func112, Tryz.ntmps112
  go_wp2_with fail
  try simp only [hwd]
  refine calls_let ?_
  intro E hE
  have hJE : JI g w E := ⟨by rw [hE]; exact g_chg, by rw [hE]; exact BoxI.al (BoxI.al (BoxI.new _ _) _) _, by rw [hE]; exact BoxI.al (BoxI.new' _ _ (by simp only [World.size_alloc])) _, by rw [hE]; exact BoxI.new' _ _ (by simp only [World.size_alloc])⟩
  have hrE : RdLe E g P := by rw [hE]; have := HP.out; exact g_rd
  clear hE HP hwd
  refine Calls.mono (pickG (k := 2) hrE (by omega) (by omega)) ?_
  rintro e w1 ⟨v, rfl, ⟨s1, rfl, _⟩, hr1, hc1⟩
  have HJ1 := Lib.hid (hJE.cg hc1 lt0)
  have HR1 := Lib.hid (hr1.mono (show P + 1 ≤ P + 1 by omega))
  have hJC : ∀ W W', JI g w W → ChgG g W W' → JI g w W' := fun W W' h c => h.cg c lt0
  clear hJE hrE hr1 hc1
  by_cases hs1 : s1 = 0
  · subst hs1
    go_wp2_with fail
    have hPP : P + 1 + 2 ≤ 1099511627776 := by omega
    refine region_drawL g (P + 1) 2 45 [0, 0, 0, 0, 1, 0, 1, 0, 0, 0, 0, 0] (JI g w) (fun b => b = g ∨ b = w.heap.size + 1 + 1)
      [prV (fun v => v = .pointer (some ⟨w.heap.size, 0, none⟩)), prV IsInt, prV IsInt, prV (fun v => v = .pointer (some ⟨g, 0, none⟩)), prV (IsNat 4), prV (fun v => v = .pointer (some ⟨g, 0, none⟩)), prV (IsNat 200), prV IsInt, prV IsInt, prV IsInt, prV (fun v => v = .pointer (some ⟨w.heap.size + 1 + 1, 0, none⟩)), prT]
      (by kernel_rfl) rfl (by kernel_rfl) (by kernel_rfl) (HJ1.out.cg (chg_drew (ChgG.refl _ _)) lt0) HR1.out ⟨?_, ?_, ?_, ?_, ?_, ?_, ?_, ?_, ?_, ?_, ?_, ?_, trivial⟩ ?_
    · exact ds_field 3 0 _ _ rfl (by kernel_rfl) rfl (fun W => by kernel_rfl) (fun _ => rfl)
    · exact ds_loadB 16 0 _ rfl ⟨⟨⟨0, .data⟩, by simp, rfl, by kernel_rfl⟩, by kernel_rfl⟩ (fun _ _ h => h) (fun W h => h.2.1.get0) (fun _ _ h => h)
    · exact ds_move 6 _ rfl (by kernel_rfl) rfl (fun _ => ⟨_, rfl⟩)
    · exact ds_move 0 _ rfl (by kernel_rfl) rfl (fun _ => rfl)
    · exact ds_pick 19 3 4 (fun _ _ => by kernel_rfl) ⟨⟨⟨3, .data⟩, by simp, rfl, by kernel_rfl⟩, by kernel_rfl⟩ (fun _ _ h => h) rfl hPP (by omega) (fun _ _ h => h) hJC (.inl rfl)
    · exact ds_move 0 _ rfl (by kernel_rfl) rfl (fun _ => rfl)
    · exact ds_pick 21 5 200 (fun _ _ => by kernel_rfl) ⟨⟨⟨5, .data⟩, by simp, rfl, by kernel_rfl⟩, by kernel_rfl⟩ (fun _ _ h => h) rfl hPP (by omega) (fun _ _ h => h) hJC (.inl rfl)
    · exact ds_mul2 20 22 4 6 rfl ⟨⟨⟨4, .data⟩, by simp, rfl, by kernel_rfl⟩, by kernel_rfl⟩ ⟨⟨⟨6, .data⟩, by simp, rfl, by kernel_rfl⟩, by kernel_rfl⟩ (fun _ _ h => isInt_of_nat h) (fun _ _ h => isInt_of_nat h) (fun _ _ h => h)
    · exact ds_min 18 23 2 7 rfl rfl ⟨⟨⟨2, .data⟩, by simp, rfl, by kernel_rfl⟩, by kernel_rfl⟩ ⟨⟨⟨7, .data⟩, by simp, rfl, by kernel_rfl⟩, by kernel_rfl⟩ (fun _ _ h => h) (fun _ _ h => h) (fun _ _ h => h)
    · exact ds_add2 17 24 1 8 rfl ⟨⟨⟨1, .data⟩, by simp, rfl, by kernel_rfl⟩, by kernel_rfl⟩ ⟨⟨⟨8, .data⟩, by simp, rfl, by kernel_rfl⟩, by kernel_rfl⟩ (fun _ _ h => h) (fun _ _ h => h) (fun _ _ h => h)
    · exact ds_field 5 0 _ _ rfl (by kernel_rfl) rfl (fun W => by kernel_rfl) (fun _ => rfl)
    · exact ds_storeI ⟨w.heap.size + 1 + 1, 0, none⟩ 26 10 25 9 rfl ⟨⟨⟨10, .data⟩, by simp, rfl, by kernel_rfl⟩, by kernel_rfl⟩ ⟨⟨⟨9, .data⟩, by simp, rfl, by kernel_rfl⟩, by kernel_rfl⟩ (fun _ _ h => h) (fun _ _ h => h) (fun W h => by obtain ⟨u0, u1, hb⟩ := h.2.2.2; exact ⟨_, hb.cell 0, hb.frozen 0, rfl⟩) (fun W y h => ⟨chg_set h.1 (by simp only; omega) _, h.2.1.far (by simp only; omega) _, h.2.2.1.far (by simp only; omega) _, h.2.2.2.set0 y⟩) (by simp only; omega) (.inr rfl) (fun _ _ => trivial)
    · rintro vs w5 hJ5 hr5 hR
      have HJ1 := Lib.hid hJ5
      have HR1 := Lib.hid (hr5.mono (show P + 1 + 2 ≤ P + 3 by omega))
      clear hr5 hR hJ5
      simp only [putAll, Act.put, List.setIfInBounds_toArray, List.set_cons_zero, List.set_cons_succ]
      go_wp2_with fail
      refine Calls.mono (pickG (k := 2) HR1.out (by omega) (by omega)) ?_
      rintro e w6 ⟨v, rfl, ⟨s2, rfl, _⟩, hr6, hc6⟩
      have HJ6 := Lib.hid (HJ1.out.cg hc6 lt0)
      have HR6 := Lib.hid (hr6.mono (show P + 3 + 1 ≤ P + 4 by omega))
      clear hr6 hc6 HJ1 HR1
      by_cases hs2 : s2 = 0
      · subst hs2
        go_wp2_with fail
        have hPP : P + 4 + 2 ≤ 1099511627776 := by omega
        refine region_drawL g (P + 4) 2 45 [0, 0, 0, 0, 0, 0, 1, 0, 1, 0, 0, 0, 0, 0, 0] (JI g w) (fun b => b = g ∨ b = w.heap.size + 1 + 1)
          [prV (fun v => v = .pointer (some ⟨w.heap.size + 1 + 1, 0, none⟩)), prV IsInt, prV (fun v => v = .pointer (some ⟨w.heap.size, 1, none⟩)), prV IsInt, prV IsInt, prV (fun v => v = .pointer (some ⟨g, 0, none⟩)), prV (IsNat 4), prV (fun v => v = .pointer (some ⟨g, 0, none⟩)), prV (IsNat 200), prV IsInt, prV IsInt, prV IsInt, prV IsInt, prV (fun v => v = .pointer (some ⟨w.heap.size + 1 + 1, 1, none⟩)), prT]
          (by kernel_rfl) rfl (by kernel_rfl) (by kernel_rfl) (HJ6.out.cg (chg_drew (ChgG.refl _ _)) lt0) HR6.out ⟨?_, ?_, ?_, ?_, ?_, ?_, ?_, ?_, ?_, ?_, ?_, ?_, ?_, ?_, ?_, trivial⟩ ?_
        · exact ds_field 5 0 _ _ rfl (by kernel_rfl) rfl (fun W => by kernel_rfl) (fun _ => rfl)
        · exact ds_loadB 30 0 _ rfl ⟨⟨⟨0, .data⟩, by simp, rfl, by kernel_rfl⟩, by kernel_rfl⟩ (fun _ _ h => h) (fun W h => h.2.2.2.get0) (fun _ _ h => h)
        · exact ds_field 3 1 _ _ rfl (by kernel_rfl) rfl (fun W => by kernel_rfl) (fun _ => rfl)
        · exact ds_loadB 32 2 _ rfl ⟨⟨⟨2, .data⟩, by simp, rfl, by kernel_rfl⟩, by kernel_rfl⟩ (fun _ _ h => h) (fun W h => h.2.1.get1) (fun _ _ h => h)
        · exact ds_move 6 _ rfl (by kernel_rfl) rfl (fun _ => ⟨_, rfl⟩)
        · exact ds_move 0 _ rfl (by kernel_rfl) rfl (fun _ => rfl)
        · exact ds_pick 35 5 4 (fun _ _ => by kernel_rfl) ⟨⟨⟨5, .data⟩, by simp, rfl, by kernel_rfl⟩, by kernel_rfl⟩ (fun _ _ h => h) rfl hPP (by omega) (fun _ _ h => h) hJC (.inl rfl)
        · exact ds_move 0 _ rfl (by kernel_rfl) rfl (fun _ => rfl)
        · exact ds_pick 37 7 200 (fun _ _ => by kernel_rfl) ⟨⟨⟨7, .data⟩, by simp, rfl, by kernel_rfl⟩, by kernel_rfl⟩ (fun _ _ h => h) rfl hPP (by omega) (fun _ _ h => h) hJC (.inl rfl)
        · exact ds_mul2 36 38 6 8 rfl ⟨⟨⟨6, .data⟩, by simp, rfl, by kernel_rfl⟩, by kernel_rfl⟩ ⟨⟨⟨8, .data⟩, by simp, rfl, by kernel_rfl⟩, by kernel_rfl⟩ (fun _ _ h => isInt_of_nat h) (fun _ _ h => isInt_of_nat h) (fun _ _ h => h)
        · exact ds_min 34 39 4 9 rfl rfl ⟨⟨⟨4, .data⟩, by simp, rfl, by kernel_rfl⟩, by kernel_rfl⟩ ⟨⟨⟨9, .data⟩, by simp, rfl, by kernel_rfl⟩, by kernel_rfl⟩ (fun _ _ h => h) (fun _ _ h => h) (fun _ _ h => h)
        · exact ds_sub2 33 40 3 10 rfl ⟨⟨⟨3, .data⟩, by simp, rfl, by kernel_rfl⟩, by kernel_rfl⟩ ⟨⟨⟨10, .data⟩, by simp, rfl, by kernel_rfl⟩, by kernel_rfl⟩ (fun _ _ h => h) (fun _ _ h => h) (fun _ _ h => h)
        · exact ds_max 31 41 1 11 rfl rfl ⟨⟨⟨1, .data⟩, by simp, rfl, by kernel_rfl⟩, by kernel_rfl⟩ ⟨⟨⟨11, .data⟩, by simp, rfl, by kernel_rfl⟩, by kernel_rfl⟩ (fun _ _ h => h) (fun _ _ h => h) (fun _ _ h => h)
        · exact ds_field 5 1 _ _ rfl (by kernel_rfl) rfl (fun W => by kernel_rfl) (fun _ => rfl)
        · exact ds_storeI ⟨w.heap.size + 1 + 1, 1, none⟩ 43 13 42 12 rfl ⟨⟨⟨13, .data⟩, by simp, rfl, by kernel_rfl⟩, by kernel_rfl⟩ ⟨⟨⟨12, .data⟩, by simp, rfl, by kernel_rfl⟩, by kernel_rfl⟩ (fun _ _ h => h) (fun _ _ h => h) (fun W h => by obtain ⟨u0, u1, hb⟩ := h.2.2.2; exact ⟨_, hb.cell 1, hb.frozen 1, rfl⟩) (fun W y h => ⟨chg_set h.1 (by simp only; omega) _, h.2.1.far (by simp only; omega) _, h.2.2.1.far (by simp only; omega) _, h.2.2.2.set1 y⟩) (by simp only; omega) (.inr rfl) (fun _ _ => trivial)
        · rintro vs w5 hJ5 hr5 hR
          have HJ6 := Lib.hid hJ5
          have HR6 := Lib.hid (hr5.mono (show P + 4 + 2 ≤ P + 6 by omega))
          clear hr5 hR hJ5
          simp only [putAll, Act.put, List.setIfInBounds_toArray, List.set_cons_zero, List.set_cons_succ]
          obtain ⟨_, _, ⟨u0, u1, hb⟩, x0, x1, hx⟩ := HJ6.out
          have c0 : w5.cell? ⟨w.heap.size + 1 + 1, 0, none⟩ = some (.int .i64 x0) := hx.cell 0
          have c1 : w5.cell? ⟨w.heap.size + 1 + 1, 1, none⟩ = some (.int .i64 x1) := hx.cell 1
          have z0 : w5.cell? ⟨w.heap.size + 1, 0, none⟩ = some (.int .i64 u0) := hb.cell 0
          have z1 : w5.cell? ⟨w.heap.size + 1, 1, none⟩ = some (.int .i64 u1) := hb.cell 1
          have zf := fun j => hb.frozen j
          have zl := hb.lt
          clear hb hx
          go_wp2
          refine bodyPost_ret (by simp [results, Tryz.results112, go_sem, z0, z1, zl]; try rfl) rfl ?_
          exact ⟨_, rfl, ⟨_, _, rfl⟩, (rd_set (rd_set HR6.out (by simp only; omega) _) (by simp only; omega) _).mono (by omega), chg_set (chg_set HJ6.out.1 (by simp only; omega) _) (by simp only; omega) _⟩
      · have q2 : ((s2 : Int) == 0) = false := beq_eq_false_iff_ne.2 (by omega)
        obtain ⟨_, _, ⟨u0, u1, hb⟩, x0, x1, hx⟩ := HJ6.out
        have c0 : w6.cell? ⟨w.heap.size + 1 + 1, 0, none⟩ = some (.int .i64 x0) := hx.cell 0
        have c1 : w6.cell? ⟨w.heap.size + 1 + 1, 1, none⟩ = some (.int .i64 x1) := hx.cell 1
        have z0 : w6.cell? ⟨w.heap.size + 1, 0, none⟩ = some (.int .i64 u0) := hb.cell 0
        have z1 : w6.cell? ⟨w.heap.size + 1, 1, none⟩ = some (.int .i64 u1) := hb.cell 1
        have zf := fun j => hb.frozen j
        have zl := hb.lt
        clear hb hx
        go_wp2
        refine bodyPost_ret (by simp [results, Tryz.results112, go_sem, z0, z1, zl]; try rfl) rfl ?_
        exact ⟨_, rfl, ⟨_, _, rfl⟩, (rd_set (rd_set HR6.out (by simp only; omega) _) (by simp only; omega) _).mono (by omega), chg_set (chg_set HJ6.out.1 (by simp only; omega) _) (by simp only; omega) _⟩
  · have q1 : ((s1 : Int) == 0) = false := beq_eq_false_iff_ne.2 (by omega)
    go_wp2_with fail
    refine Calls.mono (pickG (k := 2) HR1.out (by omega) (by omega)) ?_
    rintro e w6 ⟨v, rfl, ⟨s2, rfl, _⟩, hr6, hc6⟩
    have HJ6 := Lib.hid (HJ1.out.cg hc6 lt0)
    have HR6 := Lib.hid (hr6.mono (show P + 1 + 1 ≤ P + 4 by omega))
    clear hr6 hc6 HJ1 HR1
    by_cases hs2 : s2 = 0
    · subst hs2
      go_wp2_with fail
      have hPP : P + 4 + 2 ≤ 1099511627776 := by omega
      refine region_drawL g (P + 4) 2 45 [0, 0, 0, 0, 0, 0, 1, 0, 1, 0, 0, 0, 0, 0, 0] (JI g w) (fun b => b = g ∨ b = w.heap.size + 1 + 1)
        [prV (fun v => v = .pointer (some ⟨w.heap.size + 1 + 1, 0, none⟩)), prV IsInt, prV (fun v => v = .pointer (some ⟨w.heap.size, 1, none⟩)), prV IsInt, prV IsInt, prV (fun v => v = .pointer (some ⟨g, 0, none⟩)), prV (IsNat 4), prV (fun v => v = .pointer (some ⟨g, 0, none⟩)), prV (IsNat 200), prV IsInt, prV IsInt, prV IsInt, prV IsInt, prV (fun v => v = .pointer (some ⟨w.heap.size + 1 + 1, 1, none⟩)), prT]
        (by kernel_rfl) rfl (by kernel_rfl) (by kernel_rfl) (HJ6.out.cg (chg_drew (ChgG.refl _ _)) lt0) HR6.out ⟨?_, ?_, ?_, ?_, ?_, ?_, ?_, ?_, ?_, ?_, ?_, ?_, ?_, ?_, ?_, trivial⟩ ?_
      · exact ds_field 5 0 _ _ rfl (by kernel_rfl) rfl (fun W => by kernel_rfl) (fun _ => rfl)
      · exact ds_loadB 30 0 _ rfl ⟨⟨⟨0, .data⟩, by simp, rfl, by kernel_rfl⟩, by kernel_rfl⟩ (fun _ _ h => h) (fun W h => h.2.2.2.get0) (fun _ _ h => h)
      · exact ds_field 3 1 _ _ rfl (by kernel_rfl) rfl (fun W => by kernel_rfl) (fun _ => rfl)
      · exact ds_loadB 32 2 _ rfl ⟨⟨⟨2, .data⟩, by simp, rfl, by kernel_rfl⟩, by kernel_rfl⟩ (fun _ _ h => h) (fun W h => h.2.1.get1) (fun _ _ h => h)
      · exact ds_move 6 _ rfl (by kernel_rfl) rfl (fun _ => ⟨_, rfl⟩)
      · exact ds_move 0 _ rfl (by kernel_rfl) rfl (fun _ => rfl)
      · exact ds_pick 35 5 4 (fun _ _ => by kernel_rfl) ⟨⟨⟨5, .data⟩, by simp, rfl, by kernel_rfl⟩, by kernel_rfl⟩ (fun _ _ h => h) rfl hPP (by omega) (fun _ _ h => h) hJC (.inl rfl)
      · exact ds_move 0 _ rfl (by kernel_rfl) rfl (fun _ => rfl)
      · exact ds_pick 37 7 200 (fun _ _ => by kernel_rfl) ⟨⟨⟨7, .data⟩, by simp, rfl, by kernel_rfl⟩, by kernel_rfl⟩ (fun _ _ h => h) rfl hPP (by omega) (fun _ _ h => h) hJC (.inl rfl)
      · exact ds_mul2 36 38 6 8 rfl ⟨⟨⟨6, .data⟩, by simp, rfl, by kernel_rfl⟩, by kernel_rfl⟩ ⟨⟨⟨8, .data⟩, by simp, rfl, by kernel_rfl⟩, by kernel_rfl⟩ (fun _ _ h => isInt_of_nat h) (fun _ _ h => isInt_of_nat h) (fun _ _ h => h)
      · exact ds_min 34 39 4 9 rfl rfl ⟨⟨⟨4, .data⟩, by simp, rfl, by kernel_rfl⟩, by kernel_rfl⟩ ⟨⟨⟨9, .data⟩, by simp, rfl, by kernel_rfl⟩, by kernel_rfl⟩ (fun _ _ h => h) (fun _ _ h => h) (fun _ _ h => h)
      · exact ds_sub2 33 40 3 10 rfl ⟨⟨⟨3, .data⟩, by simp, rfl, by kernel_rfl⟩, by kernel_rfl⟩ ⟨⟨⟨10, .data⟩, by simp, rfl, by kernel_rfl⟩, by kernel_rfl⟩ (fun _ _ h => h) (fun _ _ h => h) (fun _ _ h => h)
      · exact ds_max 31 41 1 11 rfl rfl ⟨⟨⟨1, .data⟩, by simp, rfl, by kernel_rfl⟩, by kernel_rfl⟩ ⟨⟨⟨11, .data⟩, by simp, rfl, by kernel_rfl⟩, by kernel_rfl⟩ (fun _ _ h => h) (fun _ _ h => h) (fun _ _ h => h)
      · exact ds_field 5 1 _ _ rfl (by kernel_rfl) rfl (fun W => by kernel_rfl) (fun _ => rfl)
      · exact ds_storeI ⟨w.heap.size + 1 + 1, 1, none⟩ 43 13 42 12 rfl ⟨⟨⟨13, .data⟩, by simp, rfl, by kernel_rfl⟩, by kernel_rfl⟩ ⟨⟨⟨12, .data⟩, by simp, rfl, by kernel_rfl⟩, by kernel_rfl⟩ (fun _ _ h => h) (fun _ _ h => h) (fun W h => by obtain ⟨u0, u1, hb⟩ := h.2.2.2; exact ⟨_, hb.cell 1, hb.frozen 1, rfl⟩) (fun W y h => ⟨chg_set h.1 (by simp only; omega) _, h.2.1.far (by simp only; omega) _, h.2.2.1.far (by simp only; omega) _, h.2.2.2.set1 y⟩) (by simp only; omega) (.inr rfl) (fun _ _ => trivial)
      · rintro vs w5 hJ5 hr5 hR
        have HJ6 := Lib.hid hJ5
        have HR6 := Lib.hid (hr5.mono (show P + 4 + 2 ≤ P + 6 by omega))
        clear hr5 hR hJ5
        simp only [putAll, Act.put, List.setIfInBounds_toArray, List.set_cons_zero, List.set_cons_succ]
        obtain ⟨_, _, ⟨u0, u1, hb⟩, x0, x1, hx⟩ := HJ6.out
        have c0 : w5.cell? ⟨w.heap.size + 1 + 1, 0, none⟩ = some (.int .i64 x0) := hx.cell 0
        have c1 : w5.cell? ⟨w.heap.size + 1 + 1, 1, none⟩ = some (.int .i64 x1) := hx.cell 1
        have z0 : w5.cell? ⟨w.heap.size + 1, 0, none⟩ = some (.int .i64 u0) := hb.cell 0
        have z1 : w5.cell? ⟨w.heap.size + 1, 1, none⟩ = some (.int .i64 u1) := hb.cell 1
        have zf := fun j => hb.frozen j
        have zl := hb.lt
        clear hb hx
        go_wp2
        refine bodyPost_ret (by simp [results, Tryz.results112, go_sem, z0, z1, zl]; try rfl) rfl ?_
        exact ⟨_, rfl, ⟨_, _, rfl⟩, (rd_set (rd_set HR6.out (by simp only; omega) _) (by simp only; omega) _).mono (by omega), chg_set (chg_set HJ6.out.1 (by simp only; omega) _) (by simp only; omega) _⟩
    · have q2 : ((s2 : Int) == 0) = false := beq_eq_false_iff_ne.2 (by omega)
      obtain ⟨_, _, ⟨u0, u1, hb⟩, x0, x1, hx⟩ := HJ6.out
      have c0 : w6.cell? ⟨w.heap.size + 1 + 1, 0, none⟩ = some (.int .i64 x0) := hx.cell 0
      have c1 : w6.cell? ⟨w.heap.size + 1 + 1, 1, none⟩ = some (.int .i64 x1) := hx.cell 1
      have z0 : w6.cell? ⟨w.heap.size + 1, 0, none⟩ = some (.int .i64 u0) := hb.cell 0
      have z1 : w6.cell? ⟨w.heap.size + 1, 1, none⟩ = some (.int .i64 u1) := hb.cell 1
      have zf := fun j => hb.frozen j
      have zl := hb.lt
      clear hb hx
      go_wp2
      refine bodyPost_ret (by simp [results, Tryz.results112, go_sem, z0, z1, zl]; try rfl) rfl ?_
      exact ⟨_, rfl, ⟨_, _, rfl⟩, (rd_set (rd_set HR6.out (by simp only; omega) _) (by simp only; omega) _).mono (by omega), chg_set (chg_set HJ6.out.1 (by simp only; omega) _) (by simp only; omega) _⟩
end Go.Proofs.YtpmfpgbpndobpaaGreat

/- SumsOk of the reference and of the program. No condition. -/
namespace Go.Proofs.YtpmfpgbpndobpaaGreat
open Go.RowKit Go.ChangeShapes Go.WideShapes Go.Deep
set_option linter.unusedVariables false
attribute [local go_sem] ext_cell ext_frozen ext_lt ext_le ext_le1 lt_s2 lt_s3 lt_s4 lt_s5 lt_s6 ext_lt1 ext_lt2 ext_lt3

section
variable {H : Type} {enc : TypeId × Value → H} {w : World} {base : Nat} {spare : Nat → Bool} {held : Bool}
end

theorem specItvOk (x : Itv) (w : World) : Calls Tryz.prog 48 #[x.v] w fun e w' => e = .returned (.bool (itvOkB x.lo x.hi)) ∧ Grew w w' := by
  obtain ⟨lo, hi⟩ := x
  go_enter Tryz.func48, Tryz.ntmps48
  go_wp2_with ((with_reducible refine (specNumOk _ _).mono ?_); rintro e w' ⟨rfl, rfl⟩)
  all_goals
    go_ret
    refine ⟨by go_light; simp_all [itvOkB] <;> omega, ?_⟩
    exact gr

theorem specL7None (x : Itv) (w : World) : Calls Tryz.prog 47 #[x.v] w fun e w' => e = .returned (.bool (decide (x.lo = 0) && decide (x.hi = 0))) ∧ Grew w w' := by
  obtain ⟨lo, hi⟩ := x
  go_enter Tryz.func47, Tryz.ntmps47
  go_wp2
  all_goals
    go_ret
    refine ⟨by go_light; by_cases h1 : lo = 0 <;> by_cases h2 : hi = 0 <;> simp_all, ?_⟩
    exact gr

/-- Whether a sum is ok. -/
def sumOkB (s : Sum) : Bool := if s.on then itvOkB s.lo s.hi else decide (s.lo = 0) && decide (s.hi = 0)
theorem specL7Sum (s : Sum) (w : World) : Calls Tryz.prog 46 #[s.v] w fun e w' => e = .returned (.bool (sumOkB s)) ∧ Grew w w' := by
  obtain ⟨on, lo, hi⟩ := s
  have C1 := Lib.hid (fun w => specL7None ⟨lo, hi⟩ w)
  have C2 := Lib.hid (fun w => specItvOk ⟨lo, hi⟩ w)
  cases on
  all_goals
    go_enter Tryz.func46, Tryz.ntmps46
    go_wp2_with (first | ((with_reducible refine (C1.out _).mono ?_); rintro e w' ⟨rfl, g'⟩; (first | obtain ⟨y, rfl⟩ := ext_cold g' | obtain ⟨y, rfl⟩ := ext_col g' | obtain ⟨y, rfl⟩ := ext_of g'); clear g') | ((with_reducible refine (C2.out _).mono ?_); rintro e w' ⟨rfl, g'⟩; (first | obtain ⟨y, rfl⟩ := ext_cold g' | obtain ⟨y, rfl⟩ := ext_col g' | obtain ⟨y, rfl⟩ := ext_of g'); clear g'))
    go_ret
    refine ⟨rfl, ?_⟩
    exact gr

/-- Whether sums are ok by a program. -/
def sumsOkB (ps : List Prc) (ss : List Sum) : Bool := prgOkB ps && decide (ss.length = ps.length) && ss.all sumOkB

set_option maxHeartbeats 1000000 in
theorem specSumsOk (a a' : Option Addr) (n n' cap cap' : Nat) (ps : List Prc) (ss : List Sum) (w : World) (hr : RdP w a n ps) (hr' : RdL ESum 3 w a' n' ss) (hn : n ≤ 9223372036854775807) (hn' : n' ≤ 9223372036854775807) :
    Calls Tryz.prog 8 #[.agg #[.slice a n cap], .slice a' n' cap'] w fun e w' => e = .returned (.bool (sumsOkB ps ss)) ∧ Grew w w' := by
  have HL := Lib.hid hr.len
  have HL' := Lib.hid hr'.len
  have C := fun W (h : Grew w W) => specPrgOk a n cap ps W (hr.grew h) hn
  have HR' := Lib.hid hr'; clear hr' hr
  cases hq : prgOkB ps
  · rw [hq] at C
    have HF : Hid (sumsOkB ps ss = false) := Lib.hid (by simp [sumsOkB, hq])
    have HC := Lib.hid C; clear C hq
    go_enter Tryz.func8, Tryz.ntmps8
    go_wp2_with ((with_reducible refine (HC.out _ (gr)).mono ?_); rintro e w' ⟨rfl, g'⟩; (first | obtain ⟨y, rfl⟩ := ext_cold g' | obtain ⟨y, rfl⟩ := ext_col g' | obtain ⟨y, rfl⟩ := ext_of g'); clear g')
    go_ret
    refine ⟨by rw [HF.out]; rfl, ?_⟩
    exact gr
  rw [hq] at C
  have HC := Lib.hid C; clear C
  by_cases hnn : n' = n
  · subst hnn
    have HH : Hid (sumsOkB ps ss = ss.all sumOkB) := Lib.hid (by
      have h1 := HL.out
      have h2 := HL'.out
      simp [sumsOkB, hq, h1, h2])
    clear hq
    go_enter Tryz.func8, Tryz.ntmps8
    go_wp2_with ((with_reducible refine (HC.out _ (gr)).mono ?_); rintro e w' ⟨rfl, g'⟩; (first | obtain ⟨y, rfl⟩ := ext_cold g' | obtain ⟨y, rfl⟩ := ext_col g' | obtain ⟨y, rfl⟩ := ext_of g'); clear g')
    go_loopw [5] (fun i wr => ∃ k : Nat, k ≤ n' ∧ i = .int .i64 k ∧ Grew w wr ∧ ∀ z, z ∈ ss.take k → sumOkB z = true) (fun i _ => n' - (intOf i).toNat)
    case atStart => exact ⟨0, Nat.zero_le _, rfl, gr, by simp⟩
    case round =>
      obtain ⟨k, hk, rfl, hg, hall⟩ := hrel
      have HA := Lib.hid hall; clear hall
      by_cases hlt : k < n'
      · obtain ⟨b, off, on, lo, hi, rfl, hx, c0, c1, c2, hb⟩ := rdSum_at (HR'.out.grew staysSum hg) hlt
        have HX := Lib.hid hx; clear hx
        have HG := Lib.hid hg; clear hg
        have C := fun w => specL7Sum ⟨on, lo, hi⟩ w
        cases hq : sumOkB ⟨on, lo, hi⟩
        · rw [hq] at C
          have HC := Lib.hid C; clear C
          have HQ := Lib.hid hq; clear hq
          go_wp2_with ((with_reducible refine (HC.out _).mono ?_); rintro e w' ⟨rfl, g'⟩; (first | obtain ⟨z, rfl⟩ := ext_cold g' | obtain ⟨z, rfl⟩ := ext_col g' | obtain ⟨z, rfl⟩ := ext_of g'); clear g')
          go_ret
          refine ⟨?_, grew_ext HG.out z⟩
          rw [HH.out]
          have : ss.all sumOkB = false := by
            rw [List.all_eq_false]
            exact ⟨_, List.mem_of_getElem? HX.out, by simp [HQ.out]⟩
          rw [this]
          rfl
        · rw [hq] at C
          have HC := Lib.hid C; clear C
          have HQ := Lib.hid hq; clear hq
          go_wp2_with ((with_reducible refine (HC.out _).mono ?_); rintro e w' ⟨rfl, g'⟩; (first | obtain ⟨z, rfl⟩ := ext_cold g' | obtain ⟨z, rfl⟩ := ext_col g' | obtain ⟨z, rfl⟩ := ext_of g'); clear g')
          go_roundw
          case rel =>
            refine ⟨k + 1, by omega, by go_num, grew_ext HG.out z, fun s hs => ?_⟩
            rw [take_get HX.out] at hs
            rcases List.mem_append.1 hs with hs | hs
            · exact HA.out s hs
            · obtain rfl := List.mem_singleton.1 hs
              exact HQ.out
          case measure => simp [intOf]; omega
      · have hall : ss.all sumOkB = true := by
          rw [List.all_eq_true]
          intro z hz
          exact HA.out z (by rw [List.take_of_length_le (by have := HL'.out; omega)]; exact hz)
        have HF := Lib.hid hall; clear hall
        have HG := Lib.hid hg; clear hg
        go_wp2
        go_ret
        exact ⟨by rw [HH.out, HF.out]; rfl, HG.out⟩
  · have HF : Hid (sumsOkB ps ss = false) := Lib.hid (by
      have h1 := HL.out
      have h2 := HL'.out
      simp [sumsOkB, h1, h2, hnn])
    have hb : ((n' : Int) != (n : Int)) = true := by simp; omega
    clear hnn hq
    go_enter Tryz.func8, Tryz.ntmps8
    go_wp2_with ((with_reducible refine (HC.out _ (gr)).mono ?_); rintro e w' ⟨rfl, g'⟩; (first | obtain ⟨y, rfl⟩ := ext_cold g' | obtain ⟨y, rfl⟩ := ext_col g' | obtain ⟨y, rfl⟩ := ext_of g'); clear g')
    go_ret
    refine ⟨by rw [HF.out]; rfl, ?_⟩
    exact gr

theorem sumEql (a1 b1 : Bool) (a2 a3 b2 b3 : Int) (w : World) :
    (binOp .eql 52 (.agg #[.bool a1, .int .i64 a2, .int .i64 a3]) (.agg #[.bool b1, .int .i64 b2, .int .i64 b3])).run Tryz.prog w = .ok (.bool (sumEqB ⟨a1, a2, a3⟩ ⟨b1, b2, b3⟩)) w := by
  unfold sumEqB
  cases a1 <;> cases b1
  all_goals
    by_cases h2 : a2 = b2
    · by_cases h3 : a3 = b3 <;> simp [go_sem, *]
    · simp [go_sem, *]
attribute [local go_sem ↓] sumEql

set_option maxHeartbeats 1000000 in
theorem implSumOk (s : Sum) (w : World) : Calls Tryz.prog 94 #[s.v] w fun e w' => e = .returned (.bool (sumOkB s)) ∧ Grew w w' := by
  obtain ⟨on, lo, hi⟩ := s
  cases on
  · have HV : Hid (sumOkB ⟨false, lo, hi⟩ = sumEqB ⟨false, lo, hi⟩ ⟨false, 0, 0⟩) := Lib.hid (by simp [sumOkB, sumEqB, Bool.decide_and])
    rw [HV.out]
    go_enter Tryz.func94, Tryz.ntmps94
    go_wp2
    all_goals
      go_ret
      refine ⟨rfl, ?_⟩
      exact gr
  · have C := fun w => itvOk lo hi w
    have HZ : Hid (sumEqB ⟨true, lo, hi⟩ ⟨false, 0, 0⟩ = false) := Lib.hid (by simp [sumEqB])
    have HV : Hid (sumOkB ⟨true, lo, hi⟩ = itvOkB lo hi) := Lib.hid rfl
    rw [HV.out]
    cases hB : itvOkB lo hi
    all_goals
      rw [hB] at C
      have HC := Lib.hid C
      clear C hB
      have hz := HZ.out
      go_enter Tryz.func94, Tryz.ntmps94
      go_wp2_with ((with_reducible refine (HC.out _).mono ?_); rintro e w' ⟨rfl, g'⟩; (first | obtain ⟨y, rfl⟩ := ext_cold g' | obtain ⟨y, rfl⟩ := ext_col g' | obtain ⟨y, rfl⟩ := ext_of g'); clear g')
      go_ret
      refine ⟨rfl, ?_⟩
      exact gr

theorem sumsOkF1 (s : Sum) (w : World) : Calls Tryz.prog 93 #[s.v] w fun e w' => e = .returned (.bool (!sumOkB s)) ∧ Grew w w' := by
  obtain ⟨on, lo, hi⟩ := s
  have C := fun w => implSumOk ⟨on, lo, hi⟩ w
  generalize sumOkB ⟨on, lo, hi⟩ = B at *
  have HC := Lib.hid C; clear C
  go_enter Tryz.func93, Tryz.ntmps93
  go_wp2_with ((with_reducible refine (HC.out _).mono ?_); rintro e w' ⟨rfl, g'⟩; (first | obtain ⟨y, rfl⟩ := ext_cold g' | obtain ⟨y, rfl⟩ := ext_col g' | obtain ⟨y, rfl⟩ := ext_of g'); clear g')
  go_ret
  refine ⟨rfl, ?_⟩
  exact gr

set_option maxHeartbeats 1000000 in
theorem indexFuncSum (a : Option Addr) (n cap : Nat) (xs : List Sum) (w : World) (hr : RdL ESum 3 w a n xs) (hn : n ≤ 9223372036854775807) :
    Calls Tryz.prog 127 #[.slice a n cap, .func (.func 93) #[] #[]] w (RetIdx (fun x => !sumOkB x) xs w) := by
  have HL := Lib.hid hr.len
  have HR := Lib.hid hr; clear hr
  go_enter Tryz.func127, Tryz.ntmps127
  go_wp2
  go_loopw [8] (fun i wr => ∃ k : Nat, k ≤ n ∧ i = .int .i64 k ∧ (∃ x, wr = ext w x) ∧ ∀ x, x ∈ xs.take k → sumOkB x = true) (fun i _ => n - (intOf i).toNat)
  case atStart => exact ⟨0, Nat.zero_le _, rfl, ext_of (Below.refl _ _), by simp⟩
  case round =>
    obtain ⟨k, hk, rfl, ⟨x, rfl⟩, hall⟩ := hrel
    have HA := Lib.hid hall; clear hall
    by_cases hlt : k < n
    · obtain ⟨b, off, on, lo, hi, rfl, hx, c0, c1, c2, hb⟩ := rdSum_at (HR.out.grew staysSum (ext_grew w x)) hlt
      have HX := Lib.hid hx; clear hx
      have C := fun w => sumsOkF1 ⟨on, lo, hi⟩ w
      cases hq : sumOkB ⟨on, lo, hi⟩
      · rw [hq] at C
        have HC := Lib.hid C; clear C
        have HQ := Lib.hid hq; clear hq
        go_wp2_with ((with_reducible refine (HC.out _).mono ?_); rintro e w' ⟨rfl, g'⟩; (first | obtain ⟨y, rfl⟩ := ext_cold g' | obtain ⟨y, rfl⟩ := ext_col g' | obtain ⟨y, rfl⟩ := ext_of g'); clear g')
        go_ret
        refine ⟨k, rfl, ?_, gr⟩
        rw [decide_eq_true (by omega), eq_comm, List.any_eq_true]
        exact ⟨_, List.mem_of_getElem? HX.out, by simp [HQ.out]⟩
      · rw [hq] at C
        have HC := Lib.hid C; clear C
        have HQ := Lib.hid hq; clear hq
        go_wp2_with ((with_reducible refine (HC.out _).mono ?_); rintro e w' ⟨rfl, g'⟩; (first | obtain ⟨y, rfl⟩ := ext_cold g' | obtain ⟨y, rfl⟩ := ext_col g' | obtain ⟨y, rfl⟩ := ext_of g'); clear g')
        go_roundw
        case rel =>
          refine ⟨k + 1, by omega, by go_num, ext_of (gr), fun z hz => ?_⟩
          rw [take_get HX.out] at hz
          rcases List.mem_append.1 hz with hz | hz
          · exact HA.out z hz
          · obtain rfl := List.mem_singleton.1 hz
            exact HQ.out
        case measure => simp [intOf]; omega
    · go_wp2
      go_ret
      refine ⟨-1, rfl, ?_, gr⟩
      rw [eq_comm]
      show xs.any _ = false
      rw [List.any_eq_false]
      intro z hz
      have := HA.out z (by rw [List.take_of_length_le (by have := HL.out; omega)]; exact hz)
      simp [this]
theorem containsFuncSum (a : Option Addr) (n cap : Nat) (xs : List Sum) (w : World) (hr : RdL ESum 3 w a n xs) (hn : n ≤ 9223372036854775807) :
    Calls Tryz.prog 92 #[.slice a n cap, .func (.func 93) #[] #[]] w fun e w' => e = .returned (.bool (!xs.all sumOkB)) ∧ Grew w w' := by
  have C := Lib.hid (indexFuncSum a n cap xs w hr hn)
  clear hr
  go_enter Tryz.func92, Tryz.ntmps92
  go_wp2_with fail
  refine C.out.mono ?_
  rintro e w1 ⟨z, rfl, hz, g1⟩
  rw [any_not] at hz
  have HZ := Lib.hid hz; clear hz
  have HG := Lib.hid g1; clear g1
  go_wp2
  go_ret
  exact ⟨by rw [← HZ.out]; rfl, HG.out⟩


set_option maxHeartbeats 1000000 in
theorem implSumsOk (a a' : Option Addr) (n n' cap cap' : Nat) (ps : List Prc) (ss : List Sum) (w : World) (hr : RdP w a n ps) (hr' : RdL ESum 3 w a' n' ss) (hn : n ≤ 9223372036854775807) (hn' : n' ≤ 9223372036854775807) :
    Calls Tryz.prog 51 #[.agg #[.slice a n cap], .slice a' n' cap'] w fun e w' => e = .returned (.bool (sumsOkB ps ss)) ∧ Grew w w' := by
  have HL := Lib.hid hr.len
  have HL' := Lib.hid hr'.len
  have C := fun W (h : Grew w W) => implPrgOk a n cap ps W (hr.grew h) hn
  have C2 := fun W (h : Grew w W) => containsFuncSum a' n' cap' ss W (hr'.grew staysSum h) hn'
  clear hr' hr
  cases hq : prgOkB ps
  · rw [hq] at C
    have HF : Hid (sumsOkB ps ss = false) := Lib.hid (by simp [sumsOkB, hq])
    have HC := Lib.hid C; clear C C2 hq
    go_enter Tryz.func51, Tryz.ntmps51
    go_wp2_with ((with_reducible refine (HC.out _ (gr)).mono ?_); rintro e w' ⟨rfl, g'⟩; (first | obtain ⟨y, rfl⟩ := ext_cold g' | obtain ⟨y, rfl⟩ := ext_col g' | obtain ⟨y, rfl⟩ := ext_of g'); clear g')
    go_ret
    refine ⟨by rw [HF.out]; rfl, ?_⟩
    exact gr
  rw [hq] at C
  have HC := Lib.hid C; clear C
  have HC2 := Lib.hid C2; clear C2
  by_cases hnn : n' = n
  · subst hnn
    have HH : Hid (sumsOkB ps ss = ss.all sumOkB) := Lib.hid (by
      have h1 := HL.out
      have h2 := HL'.out
      simp [sumsOkB, hq, h1, h2])
    clear hq
    generalize ss.all sumOkB = B at *
    go_enter Tryz.func51, Tryz.ntmps51
    go_wp2_with (first | ((with_reducible refine (HC.out _ (gr)).mono ?_); rintro e w' ⟨rfl, g'⟩; (first | obtain ⟨y, rfl⟩ := ext_cold g' | obtain ⟨y, rfl⟩ := ext_col g' | obtain ⟨y, rfl⟩ := ext_of g'); clear g') | ((with_reducible refine (HC2.out _ (gr)).mono ?_); rintro e w' ⟨rfl, g'⟩; (first | obtain ⟨z, rfl⟩ := ext_cold g' | obtain ⟨z, rfl⟩ := ext_col g' | obtain ⟨z, rfl⟩ := ext_of g'); clear g'))
    go_ret
    refine ⟨by rw [HH.out]; cases B <;> rfl, ?_⟩
    exact gr
  · have HF : Hid (sumsOkB ps ss = false) := Lib.hid (by
      have h1 := HL.out
      have h2 := HL'.out
      simp [sumsOkB, h1, h2, hnn])
    have hb : ((n' : Int) == (n : Int)) = false := by simp; omega
    clear hnn hq
    go_enter Tryz.func51, Tryz.ntmps51
    go_wp2_with ((with_reducible refine (HC.out _ (gr)).mono ?_); rintro e w' ⟨rfl, g'⟩; (first | obtain ⟨y, rfl⟩ := ext_cold g' | obtain ⟨y, rfl⟩ := ext_col g' | obtain ⟨y, rfl⟩ := ext_of g'); clear g')
    go_ret
    refine ⟨by rw [HF.out]; rfl, ?_⟩
    exact gr
end Go.Proofs.YtpmfpgbpndobpaaGreat