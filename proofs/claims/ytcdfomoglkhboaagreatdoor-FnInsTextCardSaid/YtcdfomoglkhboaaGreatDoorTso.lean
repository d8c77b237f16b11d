/- The reference's look-ups of a relation and of a kind by their words. No condition. -/
import Derived.Test.YtcdfomoglkhboaaGreatDoorTsw
namespace Go.Proofs.YtcdfomoglkhboaaGreatDoor
open Go.RowKit Go.Lib
set_option linter.unusedVariables false
set_option linter.unusedSimpArgs false
attribute [local go_sem] ext_cell ext_frozen ext_lt ext_le ext_le1 lt_s2 lt_s3 lt_s4 lt_s5 lt_s6 ext_lt1 ext_lt2 ext_lt3

theorem relsL_get {k : Nat} (h : k < 5) : ∃ x, relsL[k]? = some x := ⟨relsL[k]'h, List.getElem?_eq_getElem _⟩
theorem namesL_get {k : Nat} (h : k < 13) : ∃ x, namesL[k]? = some x := ⟨namesL[k]'h, List.getElem?_eq_getElem _⟩
theorem relOfS_hit {k : Nat} {l : List UInt8} (h1 : 1 ≤ k) (h : relsL[k]? = some l) : relOfS l = k := by
  have hk : k < 5 := (List.getElem?_eq_some_iff.1 h).1
  have : k = 1 ∨ k = 2 ∨ k = 3 ∨ k = 4 := by omega
  rcases this with rfl | rfl | rfl | rfl <;> simp [relsL] at h <;> subst h <;> rfl
theorem relOfS_miss {l : List UInt8} (h : ∀ j x, 1 ≤ j → j < 5 → relsL[j]? = some x → x ≠ l) : relOfS l = 0 := by
  have h1 := h 1 [60] (by omega) (by omega) rfl
  have h2 := h 2 [60, 61] (by omega) (by omega) rfl
  have h3 := h 3 [61] (by omega) (by omega) rfl
  have h4 := h 4 [33, 61] (by omega) (by omega) rfl
  unfold relOfS
  rw [if_neg (Ne.symm h1), if_neg (Ne.symm h2), if_neg (Ne.symm h3), if_neg (Ne.symm h4)]
theorem opOfS_hit {k : Nat} {l : List UInt8} (h1 : 1 ≤ k) (h : namesL[k]? = some l) : opOfS l = k := by
  have hk : k < 13 := (List.getElem?_eq_some_iff.1 h).1
  have : k = 1 ∨ k = 2 ∨ k = 3 ∨ k = 4 ∨ k = 5 ∨ k = 6 ∨ k = 7 ∨ k = 8 ∨ k = 9 ∨ k = 10 ∨ k = 11 ∨ k = 12 := by omega
  rcases this with rfl | rfl | rfl | rfl | rfl | rfl | rfl | rfl | rfl | rfl | rfl | rfl <;> simp [namesL] at h <;> subst h <;> rfl
theorem opOfS_miss {l : List UInt8} (hs : l ≠ setT) (h : ∀ j x, 1 ≤ j → j < 13 → namesL[j]? = some x → x ≠ l) : opOfS l = 0 := by
  have n := fun (j : Nat) (h1 : 1 ≤ j) (h2 : j < 13) (x : List UInt8) (hx : namesL[j]? = some x) => Ne.symm (h j x h1 h2 hx)
  unfold opOfS
  rw [if_neg hs, if_neg (n 1 (by omega) (by omega) (nameT 1) rfl), if_neg (n 2 (by omega) (by omega) (nameT 2) rfl), if_neg (n 3 (by omega) (by omega) (nameT 3) rfl), if_neg (n 4 (by omega) (by omega) (nameT 4) rfl), if_neg (n 5 (by omega) (by omega) (nameT 5) rfl),
    if_neg (n 6 (by omega) (by omega) (nameT 6) rfl), if_neg (n 7 (by omega) (by omega) (nameT 7) rfl), if_neg (n 8 (by omega) (by omega) (nameT 8) rfl), if_neg (n 9 (by omega) (by omega) (nameT 9) rfl), if_neg (n 10 (by omega) (by omega) (nameT 10) rfl),
    if_neg (n 11 (by omega) (by omega) (nameT 11) rfl), if_neg (n 12 (by omega) (by omega) (nameT 12) rfl)]

set_option maxRecDepth 100000 in
theorem specRelOf (l : List UInt8) (w : World) :
    Calls Tryz.prog 74 #[.string ⟨l.toArray⟩] w fun e w' => e = .returned (.int .i64 (relOfS l)) ∧ Grew w w' := by
  have CR := Lib.hid fun w => specRels w
  go_enter Tryz.func74, Tryz.ntmps74
  go_wp2_with fail
  refine (CR.out _).mono ?_
  rintro e w1 ⟨v, rfl, ⟨t, rfl, hB, hlt, hc⟩, g1⟩
  have HC := Lib.hid hc
  have HG := Lib.hid g1
  clear hB hc g1
  go_wp2_with fail
  go_loop [4] (fun i => ∃ k : Nat, 1 ≤ k ∧ k ≤ 5 ∧ i = .int .i64 k ∧ Hid (∀ j x, 1 ≤ j → j < k → relsL[j]? = some x → x ≠ l)) (fun i => 5 - (Go.RowKit.intOf i).toNat)
  case atStart => exact ⟨1, by omega, by omega, rfl, Lib.hid (fun j x h1 h2 => by omega)⟩
  case round =>
    obtain ⟨k, hk1, hk, rfl, hm⟩ := hrel
    by_cases h5 : k < 5
    · obtain ⟨x, hx⟩ := relsL_get h5
      have HX := Lib.hid hx
      have hcell := HC.out k x hx
      clear hx
      by_cases he : x = l
      · have HE := Lib.hid (relOfS_hit hk1 (he ▸ HX.out))
        have t1 : (x == l) = true := by simp [he]
        clear he
        go_wp2
        go_ret
        exact ⟨by rw [HE.out]; rfl, HG.out⟩
      · have HN : Hid (∀ j x, 1 ≤ j → j < k + 1 → relsL[j]? = some x → x ≠ l) := Lib.hid (fun j y h1 h2 hy => by
          rcases Nat.lt_or_ge j k with h | h
          · exact hm.out j y h1 h hy
          · obtain rfl : j = k := by omega
            rw [HX.out] at hy
            injection hy with hy
            exact hy ▸ he)
        have t1 : (x == l) = false := by simp [he]
        clear he
        go_wp2
        go_round
        case rel => exact ⟨k + 1, by omega, by omega, by go_num, HN⟩
        case measure => simp [Go.RowKit.intOf]; omega
    · obtain rfl : k = 5 := by omega
      have HE := Lib.hid (relOfS_miss hm.out)
      go_wp2
      go_ret
      exact ⟨by rw [HE.out]; rfl, HG.out⟩

set_option maxRecDepth 100000 in
theorem specOp (l : List UInt8) (w : World) :
    Calls Tryz.prog 71 #[.string ⟨l.toArray⟩] w fun e w' => e = .returned (.int .i64 (opOfS l)) ∧ Grew w w' := by
  by_cases hset : l = setT
  · have HE : Hid (opOfS l = 5) := Lib.hid (by rw [hset]; rfl)
    have t1 : (l == [115, 101, 116]) = true := by rw [hset]; rfl
    clear hset
    go_enter Tryz.func71, Tryz.ntmps71
    go_wp2
    go_ret
    exact ⟨by rw [HE.out]; rfl, Below.refl _ _⟩
  have HS := Lib.hid hset
  have t0 : (l == [115, 101, 116]) = false := by
    have : l ≠ [115, 101, 116] := hset
    simpa using this
  have CR := Lib.hid fun w => specNames w
  clear hset
  go_enter Tryz.func71, Tryz.ntmps71
  go_wp2_with fail
  refine (CR.out _).mono ?_
  rintro e w1 ⟨v, rfl, ⟨t, rfl, hB, hlt, hc⟩, g1⟩
  have HC := Lib.hid hc
  have HG := Lib.hid g1
  clear hB hc g1
  go_wp2_with fail
  go_loop [4] (fun i => ∃ k : Nat, 1 ≤ k ∧ k ≤ 13 ∧ i = .int .i64 k ∧ Hid (∀ j x, 1 ≤ j → j < k → namesL[j]? = some x → x ≠ l)) (fun i => 13 - (Go.RowKit.intOf i).toNat)
  case atStart => exact ⟨1, by omega, by omega, rfl, Lib.hid (fun j x h1 h2 => by omega)⟩
  case round =>
    obtain ⟨k, hk1, hk, rfl, hm⟩ := hrel
    by_cases h5 : k < 13
    · obtain ⟨x, hx⟩ := namesL_get h5
      have HX := Lib.hid hx
      have hcell := HC.out k x hx
      clear hx
      by_cases he : x = l
      · have HE := Lib.hid (opOfS_hit hk1 (he ▸ HX.out))
        have t1 : (x == l) = true := by simp [he]
        clear he
        go_wp2
        go_ret
        exact ⟨by rw [HE.out]; rfl, HG.out⟩
      · have HN : Hid (∀ j x, 1 ≤ j → j < k + 1 → namesL[j]? = some x → x ≠ l) := Lib.hid (fun j y h1 h2 hy => by
          rcases Nat.lt_or_ge j k with h | h
          · exact hm.out j y h1 h hy
          · obtain rfl : j = k := by omega
            rw [HX.out] at hy
            injection hy with hy
            exact hy ▸ he)
        have t1 : (x == l) = false := by simp [he]
        clear he
        go_wp2
        go_round
        case rel => exact ⟨k + 1, by omega, by omega, by go_num, HN⟩
        case measure => simp [Go.RowKit.intOf]; omega
    · obtain rfl : k = 13 := by omega
      have HE := Lib.hid (opOfS_miss HS.out hm.out)
      go_wp2
      go_ret
      exact ⟨by rw [HE.out]; rfl, HG.out⟩
end Go.Proofs.YtcdfomoglkhboaaGreatDoor
