/- One state within another one: the program's side, for states that are ok. No condition. -/
import Derived.Test.YtpmfpgbpndobpaaStI
namespace Go.Proofs.Ytpmfpgbpndobpaa
open Go.RowKit
set_option linter.unusedVariables false
set_option linter.unusedSimpArgs false
attribute [local go_sem] ext_cell ext_frozen ext_lt ext_le ext_le1 lt_s2 lt_s3 lt_s4 lt_s5 lt_s6 ext_lt1 ext_lt2 ext_lt3

def inI (x y : Itv) : Bool := decide (y.lo ≤ x.lo) && decide (x.hi ≤ y.hi)
theorem implBothOk (a b : Itv) (w : World) (ha : itvB a = true) (hb : itvB b = true) :
    Calls Try.prog 66 #[.agg #[.int .i64 a.lo, .int .i64 a.hi], .agg #[.int .i64 b.lo, .int .i64 b.hi]] w fun e w' => e = .returned (.bool true) ∧ Grew w w' := by
  have C := fun w => itvOk a.lo a.hi w
  have D := fun w => itvOk b.lo b.hi w
  rw [itvB] at ha hb
  rw [ha] at C
  rw [hb] at D
  have HC := Lib.hid C
  have HD := Lib.hid D
  clear C D ha hb
  obtain ⟨al, ah⟩ := a
  obtain ⟨bl, bh⟩ := b
  simp only at HC HD ⊢
  go_enter Try.func66, Try.ntmps66
  go_wp2_with (first | ((with_reducible refine (HC.out _).mono ?_); rintro e w' ⟨rfl, g'⟩; (first | obtain ⟨y, rfl⟩ := ext_cold g' | obtain ⟨y, rfl⟩ := ext_col g' | obtain ⟨y, rfl⟩ := ext_of g'); clear g') | ((with_reducible refine (HD.out _).mono ?_); rintro e w' ⟨rfl, g'⟩; (first | obtain ⟨z, rfl⟩ := ext_cold g' | obtain ⟨z, rfl⟩ := ext_col g' | obtain ⟨z, rfl⟩ := ext_of g'); clear g'))
  go_ret
  refine ⟨by simp, ?_⟩
  repeat (first | with_reducible exact Below.refl _ _ | with_reducible assumption | with_reducible apply grew_ext | with_reducible apply grew_al | with_reducible apply grew_dn | with_reducible apply grew_d | (with_reducible refine grew_set ?_ (by first | omega | (repeat (first | with_reducible exact Nat.le_refl _ | with_reducible apply le_pl | with_reducible apply le_ext | with_reducible apply le_al))) _))
theorem implItvIn (a b : Itv) (w : World) (ha : itvB a = true) (hb : itvB b = true) :
    Calls Try.prog 51 #[.agg #[.int .i64 a.lo, .int .i64 a.hi], .agg #[.int .i64 b.lo, .int .i64 b.hi]] w fun e w' => e = .returned (.bool (inI a b)) ∧ Grew w w' := by
  have HC := Lib.hid (fun W => implBothOk a b W ha hb)
  clear ha hb
  obtain ⟨al, ah⟩ := a
  obtain ⟨bl, bh⟩ := b
  simp only at HC ⊢
  by_cases h1 : bl ≤ al
  · by_cases h2 : ah ≤ bh
    all_goals
      go_enter Try.func51, Try.ntmps51
      go_wp2_with ((with_reducible refine (HC.out _).mono ?_); rintro e w' ⟨rfl, g'⟩; (first | obtain ⟨y, rfl⟩ := ext_cold g' | obtain ⟨y, rfl⟩ := ext_col g' | obtain ⟨y, rfl⟩ := ext_of g'); clear g')
      go_ret
      refine ⟨by simp [inI, h1, h2], ?_⟩
      repeat (first | with_reducible exact Below.refl _ _ | with_reducible assumption | with_reducible apply grew_ext | with_reducible apply grew_al | with_reducible apply grew_dn | with_reducible apply grew_d | (with_reducible refine grew_set ?_ (by first | omega | (repeat (first | with_reducible exact Nat.le_refl _ | with_reducible apply le_pl | with_reducible apply le_ext | with_reducible apply le_al))) _))
  · go_enter Try.func51, Try.ntmps51
    go_wp2_with ((with_reducible refine (HC.out _).mono ?_); rintro e w' ⟨rfl, g'⟩; (first | obtain ⟨y, rfl⟩ := ext_cold g' | obtain ⟨y, rfl⟩ := ext_col g' | obtain ⟨y, rfl⟩ := ext_of g'); clear g')
    go_ret
    refine ⟨by (simp [inI]; omega), ?_⟩
    repeat (first | with_reducible exact Below.refl _ _ | with_reducible assumption | with_reducible apply grew_ext | with_reducible apply grew_al | with_reducible apply grew_dn | with_reducible apply grew_d | (with_reducible refine grew_set ?_ (by first | omega | (repeat (first | with_reducible exact Nat.le_refl _ | with_reducible apply le_pl | with_reducible apply le_ext | with_reducible apply le_al))) _))
/-- The cells of a state of four. -/
theorem st_cell {w : World} {b : Nat} {xs : List Itv} {lo hi : Int} (h : Blk w b 82 (stC xs lo hi)) (h4 : xs.length = 4) {k : Nat} {x : Itv} (hx : xs[k]? = some x) : w.cell? ⟨b, k * 2, none⟩ = some (.int .i64 x.lo) ∧ w.cell? ⟨b, k * 2 + 1, none⟩ = some (.int .i64 x.hi) := by
  match xs, h4 with
  | [x0, x1, x2, x3], _ =>
    match k, hx with
    | 0, hx => cases hx; exact ⟨h.cell 0, h.cell 1⟩
    | 1, hx => cases hx; exact ⟨h.cell 2, h.cell 3⟩
    | 2, hx => cases hx; exact ⟨h.cell 4, h.cell 5⟩
    | 3, hx => cases hx; exact ⟨h.cell 6, h.cell 7⟩
theorem st_end {w : World} {b : Nat} {xs : List Itv} {lo hi : Int} (h : Blk w b 82 (stC xs lo hi)) (h4 : xs.length = 4) : w.cell? ⟨b, 8, none⟩ = some (.int .i64 lo) ∧ w.cell? ⟨b, 9, none⟩ = some (.int .i64 hi) := by
  match xs, h4 with
  | [x0, x1, x2, x3], _ => exact ⟨h.cell 8, h.cell 9⟩
def inS (xs ys : List Itv) (x y : Itv) : Bool := (xs.zip ys).all (fun p => inI p.1 p.2) && inI x y
end Go.Proofs.Ytpmfpgbpndobpaa
