/- Abstract states in general: read by the program, found ok by both sides. No condition. -/
import Derived.Test.YtpmfpgbpndobpaaReadS
import Derived.Test.YtpmfpgbpndobpaaIntsG
namespace Go.Proofs.Ytpmfpgbpndobpaa
open Go.RowKit
set_option linter.unusedVariables false
set_option linter.unusedSimpArgs false
attribute [local go_sem] ext_cell ext_frozen ext_lt ext_le ext_le1 lt_s2 lt_s3 lt_s4 lt_s5 lt_s6 ext_lt1 ext_lt2 ext_lt3

/-- Whether a state is ok. -/
def stOkB (on : Bool) (xs : List Itv) (lo hi : Int) : Bool := if on then decide (xs.length = 4) && itvOkB lo hi && xs.all itvB else decide (xs.length = 0) && decide (lo = 0) && decide (hi = 0)
theorem st_four {xs : List Itv} {lo hi : Int} (h : stOkB true xs lo hi = true) : itvOkB lo hi = true ∧ ∃ x0 x1 x2 x3, xs = [x0, x1, x2, x3] ∧ itvB x0 = true ∧ itvB x1 = true ∧ itvB x2 = true ∧ itvB x3 = true := by
  simp only [stOkB, if_true, Bool.and_eq_true, decide_eq_true_eq] at h
  obtain ⟨⟨h1, h2⟩, h3⟩ := h
  match xs, h1, h3 with
  | [x0, x1, x2, x3], _, h3 =>
    simp only [List.all_cons, List.all_nil, Bool.and_true, Bool.and_eq_true] at h3
    exact ⟨h2, x0, x1, x2, x3, rfl, h3.1, h3.2.1, h3.2.2.1, h3.2.2.2⟩
theorem st_off {xs : List Itv} {lo hi : Int} (h : stOkB false xs lo hi = true) : xs = [] ∧ lo = 0 ∧ hi = 0 := by
  simp only [stOkB, Bool.false_eq_true, if_false, Bool.and_eq_true, decide_eq_true_eq] at h
  exact ⟨List.eq_nil_of_length_eq_zero h.1.1, h.1.2, h.2⟩
theorem itvEqZ (lo hi : Int) (w : World) : (binOp .eql 42 (.agg #[.int .i64 lo, .int .i64 hi]) (.agg #[.int .i64 0, .int .i64 0])).run Try.prog w = .ok (.bool (decide (lo = 0) && decide (hi = 0))) w := by
  by_cases h1 : lo = 0
  · by_cases h2 : hi = 0 <;> simp [go_sem, *]
  · simp [go_sem, *]
section
attribute [local go_sem ↓] itvEqZ
set_option maxHeartbeats 2000000 in
theorem readState0 (a : Option Addr) (n c : Nat) (xs : List Itv) (lo hi : Int) (w : World) (hr : RdL EItv 2 w a n xs) :
    Calls Try.prog 24 #[.agg #[.bool false, .slice a n c, .int .i64 lo, .int .i64 hi]] w fun e w' => e = .returned (.tuple #[.pointer none, .bool (stOkB false xs lo hi)]) ∧ Grew w w' := by
  have hl := hr.len
  by_cases hn : n = 0
  · have HV : Hid (stOkB false xs lo hi = (decide (lo = 0) && decide (hi = 0))) := Lib.hid (by
      have : xs = [] := List.eq_nil_of_length_eq_zero (by omega)
      subst this
      simp [stOkB])
    clear hr hl
    subst hn
    go_enter Try.func24, Try.ntmps24
    go_wp2
    go_quiet (fail)
    go_wp2
    go_ret2
    rw [HV.out]
    refine ⟨rfl, ?_⟩
    repeat (first | with_reducible exact Below.refl _ _ | with_reducible assumption | with_reducible apply grew_ext | with_reducible apply grew_al | with_reducible apply grew_dn | with_reducible apply grew_d | (with_reducible refine grew_set ?_ (by first | omega | (repeat (first | with_reducible exact Nat.le_refl _ | with_reducible apply le_pl | with_reducible apply le_ext | with_reducible apply le_al))) _))
  · have HV : Hid (stOkB false xs lo hi = false) := Lib.hid (by
      rw [stOkB, if_neg (by simp), decide_eq_false (show ¬ xs.length = 0 by omega)]
      rfl)
    have hn1 : ((n : Int) == 0) = false := by simp; omega
    have hn2 : (n == 0) = false := by simp; omega
    clear hr hl
    go_enter Try.func24, Try.ntmps24
    go_wp2
    go_quiet (fail)
    go_wp2
    go_ret2
    rw [HV.out]
    refine ⟨rfl, ?_⟩
    repeat (first | with_reducible exact Below.refl _ _ | with_reducible assumption | with_reducible apply grew_ext | with_reducible apply grew_al | with_reducible apply grew_dn | with_reducible apply grew_d | (with_reducible refine grew_set ?_ (by first | omega | (repeat (first | with_reducible exact Nat.le_refl _ | with_reducible apply le_pl | with_reducible apply le_ext | with_reducible apply le_al))) _))
end
set_option maxHeartbeats 2000000 in
theorem readStateB (a : Option Addr) (n c : Nat) (xs : List Itv) (lo hi : Int) (w : World) (hr : RdL EItv 2 w a n xs) (hn : n ≤ 9223372036854775807) (hbad : stOkB true xs lo hi = false) :
    Calls Try.prog 24 #[.agg #[.bool true, .slice a n c, .int .i64 lo, .int .i64 hi]] w fun e w' => e = .returned (.tuple #[.pointer none, .bool false]) ∧ Grew w w' := by
  have hl := hr.len
  have C := fun w => itvOk lo hi w
  have D := fun W (h : Grew w W) => containsFuncItv a n c xs W (hr.grew staysItv h) hn
  rw [stOkB, if_pos rfl] at hbad
  obtain ⟨B1, hB1⟩ : ∃ B, itvOkB lo hi = B := ⟨_, rfl⟩
  obtain ⟨B2, hB2⟩ : ∃ B, xs.all itvB = B := ⟨_, rfl⟩
  rw [hB1] at C hbad
  rw [hB2] at D hbad
  have HC := Lib.hid C
  have HD := Lib.hid D
  clear C D hr hB1 hB2
  by_cases h4 : n = 4
  · subst h4
    have h5 : decide (xs.length = 4) = true := decide_eq_true hl
    rw [h5, Bool.true_and] at hbad
    clear h5 hl
    cases B1
    · go_enter Try.func24, Try.ntmps24
      go_wp2_with (first | ((with_reducible refine (HC.out _).mono ?_); rintro e w' ⟨rfl, g'⟩; (first | obtain ⟨y, rfl⟩ := ext_cold g' | obtain ⟨y, rfl⟩ := ext_col g' | obtain ⟨y, rfl⟩ := ext_of g'); clear g') | ((with_reducible refine (HD.out _ (by repeat (first | with_reducible exact Below.refl _ _ | with_reducible assumption | with_reducible apply grew_ext | with_reducible apply grew_al | with_reducible apply grew_dn | with_reducible apply grew_d | (with_reducible refine grew_set ?_ (by first | omega | (repeat (first | with_reducible exact Nat.le_refl _ | with_reducible apply le_pl | with_reducible apply le_ext | with_reducible apply le_al))) _)))).mono ?_); rintro e w' ⟨rfl, g'⟩; (first | obtain ⟨z, rfl⟩ := ext_cold g' | obtain ⟨z, rfl⟩ := ext_col g' | obtain ⟨z, rfl⟩ := ext_of g'); clear g'))
      go_ret2
      refine ⟨rfl, ?_⟩
      repeat (first | with_reducible exact Below.refl _ _ | with_reducible assumption | with_reducible apply grew_ext | with_reducible apply grew_al | with_reducible apply grew_dn | with_reducible apply grew_d | (with_reducible refine grew_set ?_ (by first | omega | (repeat (first | with_reducible exact Nat.le_refl _ | with_reducible apply le_pl | with_reducible apply le_ext | with_reducible apply le_al))) _))
    · cases B2
      · go_enter Try.func24, Try.ntmps24
        go_wp2_with (first | ((with_reducible refine (HC.out _).mono ?_); rintro e w' ⟨rfl, g'⟩; (first | obtain ⟨y, rfl⟩ := ext_cold g' | obtain ⟨y, rfl⟩ := ext_col g' | obtain ⟨y, rfl⟩ := ext_of g'); clear g') | ((with_reducible refine (HD.out _ (by repeat (first | with_reducible exact Below.refl _ _ | with_reducible assumption | with_reducible apply grew_ext | with_reducible apply grew_al | with_reducible apply grew_dn | with_reducible apply grew_d | (with_reducible refine grew_set ?_ (by first | omega | (repeat (first | with_reducible exact Nat.le_refl _ | with_reducible apply le_pl | with_reducible apply le_ext | with_reducible apply le_al))) _)))).mono ?_); rintro e w' ⟨rfl, g'⟩; (first | obtain ⟨z, rfl⟩ := ext_cold g' | obtain ⟨z, rfl⟩ := ext_col g' | obtain ⟨z, rfl⟩ := ext_of g'); clear g'))
        go_ret2
        refine ⟨rfl, ?_⟩
        repeat (first | with_reducible exact Below.refl _ _ | with_reducible assumption | with_reducible apply grew_ext | with_reducible apply grew_al | with_reducible apply grew_dn | with_reducible apply grew_d | (with_reducible refine grew_set ?_ (by first | omega | (repeat (first | with_reducible exact Nat.le_refl _ | with_reducible apply le_pl | with_reducible apply le_ext | with_reducible apply le_al))) _))
      · cases hbad
  · have hn1 : ((n : Int) != 4) = true := by simp; omega
    have hn2 : (n != 4) = true := by simp; omega
    clear hbad hl
    go_enter Try.func24, Try.ntmps24
    go_wp2
    go_ret2
    refine ⟨rfl, ?_⟩
    repeat (first | with_reducible exact Below.refl _ _ | with_reducible assumption | with_reducible apply grew_ext | with_reducible apply grew_al | with_reducible apply grew_dn | with_reducible apply grew_d | (with_reducible refine grew_set ?_ (by first | omega | (repeat (first | with_reducible exact Nat.le_refl _ | with_reducible apply le_pl | with_reducible apply le_ext | with_reducible apply le_al))) _))
/-- What a state's ten numbers are. -/
def stC (xs : List Itv) (lo hi : Int) : Array Value := (xs.flatMap Itv.cells ++ ([.int .i64 lo, .int .i64 hi] : List Value)).toArray
/-- What readState answers. -/
def RetSt (on : Bool) (xs : List Itv) (lo hi : Int) (w : World) (e : Ending) (w' : World) : Prop :=
  Grew w w' ∧ ((stOkB on xs lo hi && on) = false ∧ e = .returned (.tuple #[.pointer none, .bool (stOkB on xs lo hi)]) ∨
    (stOkB on xs lo hi && on) = true ∧ ∃ b, e = .returned (.tuple #[.pointer (some ⟨b, 0, none⟩), .bool true]) ∧ w.heap.size ≤ b ∧ Blk w' b 82 (stC xs lo hi))
theorem implReadState (on : Bool) (a : Option Addr) (n c : Nat) (xs : List Itv) (lo hi : Int) (w : World) (hr : RdL EItv 2 w a n xs) (hn : n ≤ 9223372036854775807) (hc : n ≤ c) :
    Calls Try.prog 24 #[.agg #[.bool on, .slice a n c, .int .i64 lo, .int .i64 hi]] w (RetSt on xs lo hi w) := by
  cases on
  · refine (readState0 a n c xs lo hi w hr).mono ?_
    rintro e w' ⟨rfl, g⟩
    exact ⟨g, .inl ⟨by simp, rfl⟩⟩
  · cases hB : stOkB true xs lo hi
    · refine (readStateB a n c xs lo hi w hr hn hB).mono ?_
      rintro e w' ⟨rfl, g⟩
      exact ⟨g, .inl ⟨by rw [hB]; rfl, by rw [hB]⟩⟩
    · obtain ⟨hi1, x0, x1, x2, x3, rfl, b0, b1, b2, b3⟩ := st_four hB
      obtain rfl : 4 = n := hr.len
      refine (readState4 a c x0 x1 x2 x3 lo hi w hr hi1 (by simp [b0, b1, b2, b3]) hc).mono ?_
      rintro e w' ⟨b, rfl, h1, h2, h3⟩
      exact ⟨h2, .inr ⟨by rw [hB]; rfl, b, rfl, h1, h3⟩⟩
end Go.Proofs.Ytpmfpgbpndobpaa
