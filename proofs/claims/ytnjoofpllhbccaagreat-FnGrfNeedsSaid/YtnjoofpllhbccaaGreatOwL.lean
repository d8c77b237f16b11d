/- What the laws ask of lists: equal, has, rises. No condition. -/
import Derived.Test.YtnjoofpllhbccaaGreatOw
import Derived.Test.YtnjoofpllhbccaaGreatGt
import Derived.Test.YtnjoofpllhbccaaGreatNk
namespace Go.Proofs.YtnjoofpllhbccaaGreat
open Go.RowKit
set_option linter.unusedVariables false
set_option linter.unusedSimpArgs false
attribute [local go_sem] ext_cell ext_frozen ext_lt ext_le ext_le1 lt_s2 lt_s3 lt_s4 lt_s5 lt_s6 ext_lt1 ext_lt2 ext_lt3

theorem owOf (a : Option Addr) (n cap : Nat) (parts : List (List Int)) (x : Int) (w : World) (hr : RdLL w a n parts) (hn : n ≤ 1000) (hb : ∀ l, l ∈ parts → l.length ≤ 1000) :
    Calls Tryz.prog 14 #[.slice a n cap, .int .i64 x] w (RetN (ofL parts x) w) := by
  have HL := Lib.hid hr.len
  have HR := Lib.hid hr; clear hr
  go_enter Tryz.func14, Tryz.ntmps14
  go_wp2
  go_loop [5] (fun i => ∃ k : Nat, k ≤ n ∧ i = .int .i64 k ∧ ∀ p, p ∈ parts.take k → ¬ x ∈ p) (fun i => n - (Go.RowKit.intOf i).toNat)
  case atStart => exact ⟨0, Nat.zero_le _, rfl, by simp⟩
  case round =>
    obtain ⟨k, hk, rfl, hall⟩ := hrel
    have HA := Lib.hid hall; clear hall
    by_cases hlt : k < n
    · obtain ⟨b, off, l, la, lc, rfl, hx, hc, hrd, h1, h2⟩ := rdLL_at HR.out hlt
      have hl := hb l (List.mem_of_getElem? hx)
      have C := Lib.hid (owHas la l.length lc l x w hrd (by omega))
      have HX := Lib.hid hx; clear hx hrd
      by_cases hq : x ∈ l
      · have HD := Lib.hid (decide_eq_true hq)
        go_wp2_with (go_at_call 12; refine C.out.mono ?_; rintro e w1 ⟨rfl, rfl⟩; rw [HD.out])
        go_ret
        exact ⟨by rw [ofL_at HA.out HX.out hq]; rfl, rfl⟩
      · have HD := Lib.hid (decide_eq_false hq)
        have HQ := Lib.hid hq; clear hq
        go_wp2_with (go_at_call 12; refine C.out.mono ?_; rintro e w1 ⟨rfl, rfl⟩; rw [HD.out])
        go_round
        case rel =>
          refine ⟨k + 1, by omega, by go_num, fun p hp => ?_⟩
          rw [take_get HX.out] at hp
          rcases List.mem_append.1 hp with hp | hp
          · exact HA.out p hp
          · rw [List.mem_singleton.1 hp]
            exact HQ.out
        case measure => simp [Go.RowKit.intOf]; omega
    · go_wp2
      go_ret
      refine ⟨?_, rfl⟩
      have := HA.out
      rw [List.take_of_length_le (by have := HL.out; omega)] at this
      rw [ofL_none this]
      rfl
end Go.Proofs.YtnjoofpllhbccaaGreat
