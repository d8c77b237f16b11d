/- The program's reader of a number. Itoa wants the table of powers of ten; Atoi wants that its two errors are not nil. -/
import Derived.Test.YtcdfomoglkhboaaGreatDoorTi
namespace Go.Proofs.YtcdfomoglkhboaaGreatDoor
open Go.RowKit Go.Lib
set_option linter.unusedVariables false
set_option linter.unusedSimpArgs false
attribute [local go_sem] ext_cell ext_frozen ext_lt ext_le ext_le1 lt_s2 lt_s3 lt_s4 lt_s5 lt_s6 ext_lt1 ext_lt2 ext_lt3

/-- The errors of a numeral are not nil. -/
def Errs (w : World) : Prop := (∃ te pe, w.cell? ⟨7, 0, none⟩ = some (.iface te pe)) ∧ (∃ te pe, w.cell? ⟨8, 0, none⟩ = some (.iface te pe))
theorem Errs.grew {w w' : World} (h : Errs w) (g : Grew w w') : Errs w' := by
  obtain ⟨⟨a, b, h1⟩, c, d, h2⟩ := h
  have k1 : w'.cell? _ = _ := (World.cell?_of_block (g.block _ (World.block_lt_of_cell? w _ h1))).trans h1
  have k2 : w'.cell? _ = _ := (World.cell?_of_block (g.block _ (World.block_lt_of_cell? w _ h2))).trans h2
  exact ⟨⟨a, b, k1⟩, c, d, k2⟩

theorem atoiAll_itoa {n : Int} (h : numOkB n = true) : atoiAll (itoa n) = .ok n := by
  obtain ⟨h1, h2⟩ := numOkB_iff.1 h
  rw [atoiAll_short _ (Nat.le_trans (itoa_length (n := n) (by omega) (by omega)) (by decide)), atoi_itoa]
  rfl
theorem readN_ok {s : List UInt8} {v : Int} (h : atoiAll s = .ok v) : readN s = if numOkB v && decide (itoa v = s) then some v else none := by
  cases hr : readN s with
  | some n =>
    obtain ⟨h1, rfl⟩ := readN_some.1 hr
    rw [atoiAll_itoa h1] at h
    injection h with h
    subst h
    simp [h1]
  | none =>
    split
    · rename_i hc
      simp only [Bool.and_eq_true, decide_eq_true_eq] at hc
      rw [readN_some.2 hc] at hr
      cases hr
    · rfl
theorem readN_no {s : List UInt8} (h : ∀ v, atoiAll s ≠ .ok v) : readN s = none := by
  cases hr : readN s with
  | some n =>
    obtain ⟨h1, rfl⟩ := readN_some.1 hr
    exact absurd (atoiAll_itoa h1) (h n)
  | none => rfl

theorem implAtoiOk (s : List UInt8) (v : Int) (w : World) (hs : s.length ≤ 1100000) (h : atoiAll s = .ok v) :
    Calls Tryz.prog 122 #[.string ⟨s.toArray⟩] w fun e w' => e = .returned (.tuple #[.int .i64 v, .nilIface]) ∧ Grew w w' :=
  (Tryz.strconv_Atoi_ok ⟨s.toArray⟩ (by show s.toArray.size ≤ _; rw [List.size_toArray]; omega) v h w).mono fun e w' ⟨he, hw⟩ => ⟨he, by
    rcases hw with rfl | ⟨t, rfl⟩
    · exact Below.refl _ _
    · exact bytesWorld_below _ _ _⟩
theorem implAtoiNo (s : List UInt8) (w : World) (hs : s.length ≤ 1100000) (E : Errs w) (h : ∀ v, atoiAll s ≠ .ok v) :
    Calls Tryz.prog 122 #[.string ⟨s.toArray⟩] w fun e w' => ∃ v te pe, e = .returned (.tuple #[.int .i64 v, .iface te pe]) ∧ Grew w w' := by
  obtain ⟨⟨a, b, h1⟩, c, d, h2⟩ := E
  have hl : (⟨s.toArray⟩ : ByteArray).size ≤ 281474976710656 := by show s.toArray.size ≤ _; rw [List.size_toArray]; omega
  cases hr : atoiAll s with
  | ok v => exact absurd hr (h v)
  | range => exact (Tryz.strconv_Atoi_range ⟨s.toArray⟩ hl hr _ w h2 (.inr ⟨c, d, rfl⟩)).mono fun e w' ⟨N, he, _, _, hb⟩ => ⟨_, _, _, he, hb⟩
  | _ => exact (Tryz.strconv_Atoi_syntax ⟨s.toArray⟩ hl (hr.trans rfl) _ w h1 (.inr ⟨a, b, rfl⟩)).mono fun e w' ⟨N, he, _, _, hb⟩ => ⟨_, _, _, he, hb⟩
theorem implNumTextF (n : Int) (w : World) (h : numOkB n = false) :
    Calls Tryz.prog 28 #[.int .i64 n] w fun e w' => e = .returned (.string ⟨([] : List UInt8).toArray⟩) ∧ Grew w w' := by
  have HCN : Hid (∀ w, Calls Tryz.prog 32 #[.int .i64 n] w fun e w' => e = .returned (.bool false) ∧ w = w') := Lib.hid fun w => bool_is (implNumOk n w) h
  clear h
  go_enter Tryz.func28, Tryz.ntmps28
  go_wp2_with ((with_reducible refine (HCN.out _).mono ?_); rintro e w' ⟨rfl, rfl⟩)
  go_ret
  exact ⟨rfl, gr⟩
/-- A number's text, whatever the number. -/
def numT (n : Int) : List UInt8 := if numOkB n then itoa n else []
theorem implNumTextA (n : Int) (w : World) (T : Tab w) :
    Calls Tryz.prog 28 #[.int .i64 n] w fun e w' => e = .returned (.string ⟨(numT n).toArray⟩) ∧ Grew w w' := by
  unfold numT
  cases h : numOkB n
  · exact implNumTextF n w h
  · exact implNumText n w h T
theorem atoiAll_nil {s : List UInt8} {v : Int} (h : atoiAll s = .ok v) : s ≠ [] := by
  rintro rfl
  cases h

set_option maxRecDepth 100000 in
theorem implNumRead (s : List UInt8) (w : World) (hs : s.length ≤ 1100000) (T : Tab w) (E : Errs w) :
    Calls Tryz.prog 100 #[.string ⟨s.toArray⟩] w fun e w' => e = .returned (.tuple #[.int .i64 ((readN s).getD 0), .bool (readN s).isSome]) ∧ Grew w w' := by
  have HT := Lib.hid T
  by_cases hv : ∃ v, atoiAll s = .ok v
  · obtain ⟨v, hv⟩ := hv
    have hn := atoiAll_nil hv
    have CA := Lib.hid fun w => implAtoiOk s v w hs hv
    have CN := Lib.hid fun w T => implNumTextA v w T
    rw [readN_ok hv]
    have hc : (numOkB v && decide (itoa v = s)) = decide (numT v = s) := by
      unfold numT
      cases numOkB v
      · simp [hn.symm]
      · simp
    rw [hc]
    clear hv hn hs T E hc
    generalize numT v = t at *
    by_cases ht : t = s
    · subst ht
      have hq : (t != t) = false := by simp
      go_enter Tryz.func100, Tryz.ntmps100
      go_wp2_with (first | ((with_reducible refine (CA.out _).mono ?_); rintro e w' ⟨rfl, g'⟩; (first | obtain ⟨x, rfl⟩ := ext_cold g' | obtain ⟨x, rfl⟩ := ext_col g' | obtain ⟨x, rfl⟩ := ext_of g'); clear g') | ((with_reducible refine (CN.out _ (HT.out.grew (gr))).mono ?_); rintro e w' ⟨rfl, g'⟩; (first | obtain ⟨y, rfl⟩ := ext_cold g' | obtain ⟨y, rfl⟩ := ext_col g' | obtain ⟨y, rfl⟩ := ext_of g'); clear g'))
      go_returns
      exact ⟨by simp, gr⟩
    · have hq : (t != s) = true := by simp [ht]
      have hq2 : (t == s) = false := by simp [ht]
      have HE : Hid ((if decide (t = s) = true then some v else none) = (none : Option Int)) := Lib.hid (by simp [ht])
      rw [HE.out]
      clear HE ht
      go_enter Tryz.func100, Tryz.ntmps100
      go_wp2_with (first | ((with_reducible refine (CA.out _).mono ?_); rintro e w' ⟨rfl, g'⟩; (first | obtain ⟨x, rfl⟩ := ext_cold g' | obtain ⟨x, rfl⟩ := ext_col g' | obtain ⟨x, rfl⟩ := ext_of g'); clear g') | ((with_reducible refine (CN.out _ (HT.out.grew (gr))).mono ?_); rintro e w' ⟨rfl, g'⟩; (first | obtain ⟨y, rfl⟩ := ext_cold g' | obtain ⟨y, rfl⟩ := ext_col g' | obtain ⟨y, rfl⟩ := ext_of g'); clear g'))
      go_returns
      exact ⟨rfl, gr⟩
  · have hv' : ∀ v, atoiAll s ≠ .ok v := fun v h => hv ⟨v, h⟩
    rw [readN_no hv']
    have CA := implAtoiNo s w hs E hv'
    have HCA := Lib.hid CA
    clear CA hv hv' hs T E HT
    go_enter Tryz.func100, Tryz.ntmps100
    go_wp2_with fail
    refine Calls.mono HCA.out ?_
    rintro e w1 ⟨v, te, pe, rfl, g1⟩
    obtain ⟨x, rfl⟩ := ext_of g1
    clear g1
    go_wp2
    go_returns
    exact ⟨rfl, gr⟩
end Go.Proofs.YtcdfomoglkhboaaGreatDoor
