/- What the laws ask of lists: equal, has, rises. No condition. -/
import Derived.Test.YtnjoofpllhbccaaGreatIntsG
import Derived.Test.YtnjoofpllhbccaaGreatKinds
import Derived.Test.YtnjoofpllhbccaaGreatGm
namespace Go.Proofs.YtnjoofpllhbccaaGreat
open Go.RowKit
set_option linter.unusedVariables false
set_option linter.unusedSimpArgs false
attribute [local go_sem] ext_cell ext_frozen ext_lt ext_le ext_le1 lt_s2 lt_s3 lt_s4 lt_s5 lt_s6 ext_lt1 ext_lt2 ext_lt3

theorem owOkG (w : World) : Calls Tryz.prog 11 #[] w fun e w' => e = .returned (.bool true) ∧ w = w' := by
  have C := Lib.hid (fun w => implNumOk 1 w)
  go_enter Tryz.func11, Tryz.ntmps11
  go_wp2_with fail
  refine (C.out _).mono ?_
  rintro e w' ⟨rfl, rfl⟩
  go_wp2
  go_ret
  exact ⟨rfl, rfl⟩
theorem owIntsQ (a : Option Addr) (n cap : Nat) (zs : List Int) (a' : Option Addr) (n' cap' : Nat) (ys : List Int) (w : World) (hr : Rd w a n 1 (ints .i64 zs)) (hr' : Rd w a' n' 1 (ints .i64 ys))
    (hm : n ≤ 140737488351232) (hm' : n' ≤ 140737488351232) :
    Calls Tryz.prog 9 #[.slice a n cap, .slice a' n' cap'] w fun e w' => e = .returned (.bool (decide (zs = ys))) ∧ ∃ q, w' = w.drewN q := by
  have hl := hr.len1
  have hl' := hr'.len1
  have HR := Lib.hid hr; clear hr
  have HR' := Lib.hid hr'; clear hr'
  have HL := Lib.hid hl; clear hl
  have HL' := Lib.hid hl'; clear hl'
  by_cases hn : n = n'
  · subst hn
    go_enter Tryz.func9, Tryz.ntmps9
    go_wp2
    go_loopw [5] (fun i wr => ∃ k : Nat, k ≤ n ∧ i = .int .i64 k ∧ (∃ q, wr = w.drewN q) ∧ zs.take k = ys.take k) (fun i _ => n - (intOf i).toNat)
    case atStart => exact ⟨0, Nat.zero_le _, rfl, ⟨0, rfl⟩, by simp⟩
    case round =>
      obtain ⟨k, hk, rfl, ⟨q, rfl⟩, he⟩ := hrel
      have HE := Lib.hid he; clear he
      by_cases hlt : k < n
      · obtain ⟨b, off, x, rfl, hx, hcell⟩ := HR.out.at1 hlt
        obtain ⟨b', off', y, rfl, hy, hcell'⟩ := HR'.out.at1 hlt
        have HX := Lib.hid hx; clear hx
        have HY := Lib.hid hy; clear hy
        by_cases hxy : x = y
        · subst hxy
          go_wp2
          go_quiet (fail)
          go_wp2
          go_roundw
          case rel => exact ⟨k + 1, by omega, by go_num, ⟨_, rfl⟩, by rw [take_get HX.out, take_get HY.out, HE.out]⟩
          case measure => simp [intOf]; omega
        · have hb : (x == y) = false := by simp [hxy]
          have hb' : (x != y) = true := by simp [hxy]
          have hfin : decide (zs = ys) = false := by
            apply decide_eq_false
            intro e
            have h1 := HX.out
            rw [e, HY.out] at h1
            exact hxy (Option.some.inj h1).symm
          have HF := Lib.hid hfin; clear hfin hxy
          go_wp2
          go_quiet (fail)
          go_wp2
          go_ret
          exact ⟨by rw [HF.out]; rfl, _, World.drewN_drewN _ _ _⟩
      · go_wp2
        go_ret
        have : zs = ys := by
          have h := HE.out
          rwa [List.take_of_length_le (by have := HL.out; omega), List.take_of_length_le (by have := HL'.out; omega)] at h
        exact ⟨by rw [decide_eq_true this]; rfl, _, rfl⟩
  · have hfin : decide (zs = ys) = false := by
      apply decide_eq_false
      intro e
      have h1 := HL.out
      rw [e, HL'.out] at h1
      exact hn h1.symm
    have hb : ((n : Int) != (n' : Int)) = true := by simp; omega
    have HF := Lib.hid hfin; clear hfin hn
    go_enter Tryz.func9, Tryz.ntmps9
    go_wp2
    go_ret
    exact ⟨by rw [HF.out]; rfl, 0, rfl⟩
/-- Two lists that are the same are told as such. -/
theorem owIntsE (a : Option Addr) (n cap : Nat) (a' : Option Addr) (n' cap' : Nat) (zs : List Int) (w : World) (hr : Rd w a n 1 (ints .i64 zs)) (hr' : Rd w a' n' 1 (ints .i64 zs)) (hm : n ≤ 1000) :
    Calls Tryz.prog 9 #[.slice a n cap, .slice a' n' cap'] w (fun e w' => e = .returned (.bool true) ∧ Grew w w') := by
  have h1 := hr.len1
  have h2 := hr'.len1
  refine (owIntsQ a n cap zs a' n' cap' zs w hr hr' (by omega) (by omega)).mono ?_
  rintro e w' ⟨rfl, q, rfl⟩
  exact ⟨by simp, grew_drewN _ _⟩
theorem owHas (a : Option Addr) (n cap : Nat) (zs : List Int) (x : Int) (w : World) (hr : Rd w a n 1 (ints .i64 zs)) (hn : n ≤ 9223372036854775807) :
    Calls Tryz.prog 12 #[.slice a n cap, .int .i64 x] w (fun e w' => e = .returned (.bool (decide (x ∈ zs))) ∧ w = w') := by
  have HL := Lib.hid hr.len1
  have HR := Lib.hid hr; clear hr
  go_enter Tryz.func12, Tryz.ntmps12
  go_wp2
  go_loop [5] (fun i => ∃ k : Nat, k ≤ n ∧ i = .int .i64 k ∧ ¬ x ∈ zs.take k) (fun i => n - (Go.RowKit.intOf i).toNat)
  case atStart => exact ⟨0, Nat.zero_le _, rfl, by simp⟩
  case round =>
    obtain ⟨k, hk, rfl, hall⟩ := hrel
    have HA := Lib.hid hall; clear hall
    by_cases hlt : k < n
    · obtain ⟨b, off, z0, rfl, hx, c0⟩ := HR.out.at1 hlt
      have HX := Lib.hid hx; clear hx
      by_cases hq : z0 = x
      · subst hq
        have b1 : (z0 == z0) = true := by simp
        go_wp2
        go_ret
        rw [decide_eq_true (List.mem_of_getElem? HX.out)]
        exact ⟨rfl, rfl⟩
      · have b1 : (z0 == x) = false := by simp [hq]
        have HQ := Lib.hid hq; clear hq
        go_wp2
        go_round
        case rel =>
          refine ⟨k + 1, by omega, by go_num, fun hz => ?_⟩
          rw [take_get HX.out] at hz
          rcases List.mem_append.1 hz with hz | hz
          · exact HA.out hz
          · exact HQ.out (List.mem_singleton.1 hz).symm
        case measure => simp [Go.RowKit.intOf]; omega
    · go_wp2
      go_ret
      have hno : ¬ x ∈ zs := by
        have := HA.out
        rwa [List.take_of_length_le (by have := HL.out; omega)] at this
      rw [decide_eq_false hno]
      exact ⟨rfl, rfl⟩
theorem srt_at {zs : List Int} (h : Srt zs) {k : Nat} {x y : Int} (hx : zs[k]? = some x) (hy : zs[k + 1]? = some y) : x < y := by
  have h2 := List.pairwise_iff_getElem.1 h
  obtain ⟨i1, e1⟩ := List.getElem?_eq_some_iff.1 hx
  obtain ⟨i2, e2⟩ := List.getElem?_eq_some_iff.1 hy
  have := h2 k (k + 1) i1 i2 (by omega)
  rw [e1, e2] at this
  exact this
theorem owRising (a : Option Addr) (n cap : Nat) (zs : List Int) (w : World) (hr : Rd w a n 1 (ints .i64 zs)) (hm : n ≤ 1000) (hs : Srt zs) :
    Calls Tryz.prog 15 #[.slice a n cap] w (fun e w' => e = .returned (.bool true) ∧ Grew w w') := by
  have hl := hr.len1
  have HR := Lib.hid hr; clear hr
  have HS := Lib.hid hs; clear hs
  go_enter Tryz.func15, Tryz.ntmps15
  go_wp2
  go_loopw [3] (fun i wr => ∃ k : Nat, 1 ≤ k ∧ (k ≤ n ∨ k = 1) ∧ i = .int .i64 k ∧ (∃ q, wr = w.drewN q)) (fun i _ => n - (intOf i).toNat)
  case atStart => exact ⟨1, Nat.le_refl _, .inr rfl, rfl, ⟨0, rfl⟩⟩
  case round =>
    obtain ⟨k, hk1, hk, rfl, ⟨q, rfl⟩⟩ := hrel
    by_cases hlt : k < n
    · obtain ⟨m, rfl⟩ : ∃ m, k = m + 1 := ⟨k - 1, by omega⟩
      obtain ⟨b, off, x, rfl, hx, hcell⟩ := HR.out.at1 (show m < n from by omega)
      obtain ⟨b', off', y, e, hy, hcell'⟩ := HR.out.at1 hlt
      obtain ⟨rfl, rfl⟩ : b' = b ∧ off' = off := by simpa [eq_comm] using e
      have hxy := srt_at HS.out hx hy
      have b1 : decide (y ≤ x) = false := by simp; omega
      have w1 : IntKind.i64.wrap (((m + 1 : Nat) : Int) - 1) = (m : Int) := by rw [show ((m + 1 : Nat) : Int) - 1 = (m : Int) from by omega]; exact IntWalk.i64_in _ (by constructor <;> omega)
      clear hx hy e
      go_wp2
      go_quiet (fail)
      go_wp2
      go_roundw
      case rel => exact ⟨m + 1 + 1, by omega, by omega, by go_num, ⟨_, rfl⟩⟩
      case measure => simp [intOf]; omega
    · go_wp2_with fail
      refine (owOkG _).mono ?_
      rintro e w1 ⟨rfl, rfl⟩
      go_wp2
      go_ret
      exact ⟨rfl, grew_drewN _ _⟩
end Go.Proofs.YtnjoofpllhbccaaGreat
