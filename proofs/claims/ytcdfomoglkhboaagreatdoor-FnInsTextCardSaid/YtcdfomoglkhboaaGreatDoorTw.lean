/- The reference's writers of a variable and of a number; the program's names. No condition. -/
import Derived.Test.YtcdfomoglkhboaaGreatDoorTxB
import Derived.Test.YtcdfomoglkhboaaGreatDoorExt
import Derived.Laws.IdiomStrings
import Derived.Laws.DeepStrings4
namespace Go.Proofs.YtcdfomoglkhboaaGreatDoor
open Go.RowKit Go.Lib
set_option linter.unusedVariables false
set_option linter.unusedSimpArgs false
attribute [local go_sem] ext_cell ext_frozen ext_lt ext_le ext_le1 lt_s2 lt_s3 lt_s4 lt_s5 lt_s6 ext_lt1 ext_lt2 ext_lt3
attribute [local go_sem] ByteArray.mk_append_mk

/-- One byte as a string. -/
theorem conv1 (w : World) (x : Int) (h0 : 0 ≤ x) (h1 : x < 256) :
    (convert 22 9 (.slice (some ⟨w.heap.size, 0, none⟩) 1 1)).run Tryz.prog (w.alloc (.cells #[.int .u8 x] 5)) =
      .ok (.string ⟨#[UInt8.ofNat x.toNat]⟩) (w.alloc (.cells #[.int .u8 x] 5)) := by
  refine run_convert_bytes_back (w.alloc (.cells #[.int .u8 x] 5)) 22 9 5 ⟨w.heap.size, 0, none⟩ 1 [UInt8.ofNat x.toNat] Tryz.underlying22 Tryz.underlying5 Tryz.underlying9 ?_
  intro j hj
  have hj' : j = 0 := by simpa using hj
  subst hj'
  have e : ((UInt8.ofNat x.toNat).toNat : Int) = x := by rw [UInt8.toNat_ofNat']; omega
  show World.cell? _ _ = some (.int .u8 ((UInt8.ofNat x.toNat).toNat : Int))
  rw [e]
  simp [go_sem]

set_option maxRecDepth 100000 in
theorem specVar (k : Int) (w : World) (h : varB k = true) :
    Calls Tryz.prog 45 #[.int .i64 k] w fun e w' => e = .returned (.string ⟨(varT k).toArray⟩) ∧ Grew w w' := by
  have hk := var4 h
  clear h
  have c0 := conv1 w 97 (by decide) (by decide)
  have c1 := conv1 w 98 (by decide) (by decide)
  have c2 := conv1 w 99 (by decide) (by decide)
  have c3 := conv1 w 100 (by decide) (by decide)
  rcases hk with rfl | rfl | rfl | rfl
  all_goals
    go_enter Tryz.func45, Tryz.ntmps45
    go_wp2
    go_ret
    exact ⟨rfl, gr⟩

theorem nDigits_pow : ∀ (k u : Nat), u < 10 ^ (k + 1) → nDigits u ≤ k + 1
  | 0, u, h => by rw [nDigits_small (by simpa using h)]; omega
  | k + 1, u, h => by
    by_cases hu : u < 10
    · rw [nDigits_small hu]; omega
    · rw [nDigits_big hu]
      have := nDigits_pow k (u / 10) (by rw [Nat.pow_succ] at h; omega)
      omega
theorem dec_len (u : Nat) (h : u < 9223372036854775808) : (decDigits u).length ≤ 19 := by
  rw [decDigits_length]
  exact nDigits_pow 18 u (by omega)
theorem dec_step {m : Nat} (h : 9 < m) : decDigits m = decDigits (m / 10) ++ [UInt8.ofNat (48 + m % 10)] := by
  rw [decDigits, dif_neg (by omega)]
theorem dec_last {m : Nat} (h : ¬ 9 < m) : decDigits m = [UInt8.ofNat (48 + m)] := by
  rw [decDigits, dif_pos (by omega)]

set_option maxRecDepth 100000 in
theorem specPlain (N : Nat) (w : World) (h : N < 9223372036854775808) :
    Calls Tryz.prog 62 #[.int .i64 N] w fun e w' => e = .returned (.string ⟨(decDigits N).toArray⟩) ∧ Grew w w' := by
  have HL := Lib.hid (dec_len N h)
  go_enter Tryz.func62, Tryz.ntmps62
  go_wp2
  go_loopw [0, 3] (fun n out W => ∃ (m : Nat) (r : List UInt8), m < 9223372036854775808 ∧ decDigits N = decDigits m ++ r ∧ n = .int .i64 m ∧ out = .string ⟨r.toArray⟩ ∧ Grew w W) (fun n _ _ => (intOf n).toNat)
  case atStart => exact ⟨N, [], h, by simp, rfl, rfl, gr⟩
  case round =>
    rename_i out W
    obtain ⟨m, r, hm, hD, rfl, rfl, hg⟩ := hrel
    have HD := Lib.hid hD
    have hr : r.length ≤ 19 := by have := HL.out; rw [hD, List.length_append] at this; omega
    clear hD
    by_cases h9 : 9 < m
    · have hs := Lib.hid (dec_step h9)
      have cv := conv1 wr (48 + (m : Int) % 10) (by omega) (by omega)
      rw [show (48 + (m : Int) % 10).toNat = 48 + m % 10 by omega] at cv
      generalize UInt8.ofNat (48 + m % 10) = c at cv hs
      go_wp2
      go_roundw
      case rel => exact ⟨m / 10, c :: r, by omega, by rw [HD.out, hs.out]; simp, by go_num, rfl, gr⟩
      case measure => simp [intOf]; omega
    · have hs := Lib.hid (dec_last h9)
      have cv := conv1 wr (48 + (m : Int)) (by omega) (by omega)
      rw [show (48 + (m : Int)).toNat = 48 + m by omega] at cv
      generalize UInt8.ofNat (48 + m) = c at cv hs
      go_wp2
      go_ret
      refine ⟨?_, gr⟩
      rw [HD.out, hs.out]
      rfl

/-- A number that no sum of the digits wraps. -/
theorem specDigits (n : Int) (w : World) (h1 : -9223372036854775808 < n) (h2 : n < 9223372036854775808) :
    Calls Tryz.prog 29 #[.int .i64 n] w fun e w' => e = .returned (.string ⟨(itoa n).toArray⟩) ∧ Grew w w' := by
  by_cases hn : n < 0
  · obtain ⟨N, rfl⟩ : ∃ N : Nat, n = -(N : Int) := ⟨n.natAbs, by omega⟩
    have C := Lib.hid fun w => specPlain N w (by omega)
    have HI := Lib.hid (show itoa (-(N : Int)) = 45 :: decDigits N by unfold itoa; rw [if_pos hn]; simp)
    have hl := dec_len N (by omega)
    go_enter Tryz.func29, Tryz.ntmps29
    go_wp2_with fail
    (with_reducible refine (C.out _).mono ?_)
    rintro e w1 ⟨rfl, g1⟩
    obtain ⟨x, rfl⟩ := ext_of g1
    clear g1
    go_wp2
    go_ret
    exact ⟨by rw [HI.out]; rfl, gr⟩
  · obtain ⟨N, rfl⟩ : ∃ N : Nat, n = (N : Int) := ⟨n.natAbs, by omega⟩
    have C := Lib.hid fun w => specPlain N w (by omega)
    have HI := Lib.hid (show itoa (N : Int) = decDigits N by unfold itoa; rw [if_neg hn]; simp)
    go_enter Tryz.func29, Tryz.ntmps29
    go_wp2_with fail
    (with_reducible refine (C.out _).mono ?_)
    rintro e w1 ⟨rfl, g1⟩
    obtain ⟨x, rfl⟩ := ext_of g1
    clear g1
    go_wp2
    go_ret
    exact ⟨by rw [HI.out]; rfl, gr⟩

/-- A variable's name, as the program writes it. -/
theorem implVar (k : Int) (w : World) (h : varB k = true) :
    Calls Tryz.prog 94 #[.int .i64 k] w fun e w' => e = .returned (.string ⟨(varT k).toArray⟩) ∧ w = w' := by
  have hk := var4 h
  clear h
  rcases hk with rfl | rfl | rfl | rfl
  all_goals
    go_enter Tryz.func94, Tryz.ntmps94
    go_wp2
    go_ret
    exact ⟨rfl, rfl⟩
end Go.Proofs.YtcdfomoglkhboaaGreatDoor
