/- What an operation makes of numbers and bounds: the reference's small functions. No condition. -/
import Derived.Test.YtpmfpgbpndobpaaGreatItvD
import Derived.Test.YtpmfpgbpndobpaaGreatStN
import Derived.Test.YtpmfpgbpndobpaaGreatDoA
import Derived.Test.YtpmfpgbpndobpaaGreatHas
import Derived.Lib.MinMax
namespace Go.Proofs.YtpmfpgbpndobpaaGreat
open Go.RowKit
set_option linter.unusedVariables false
set_option linter.unusedSimpArgs false
attribute [local go_sem] ext_cell ext_frozen ext_lt ext_le ext_le1 lt_s2 lt_s3 lt_s4 lt_s5 lt_s6 ext_lt1 ext_lt2 ext_lt3

theorem i64is {n : Int} (h1 : -9223372036854775808 ≤ n) (h2 : n ≤ 9223372036854775807) : IntKind.i64.wrap n = n := by
  simp [IntKind.wrap, IntKind.bits, IntKind.signed]
  split <;> omega
theorem specNumWrap (n : Int) (w : World) : Calls Tryz.prog 172 #[.int .i64 n] w fun e w' => e = .returned (.int .i64 (w16 n)) ∧ w = w' := by
  rw [← remS_eq, remS]
  have h1 := Int.tmod_lt_of_pos n (show (0 : Int) < 65536 by omega)
  have h2 : -65536 < n.tmod 65536 := by
    have := Int.lt_tmod_of_pos n (show (0 : Int) < 65536 by omega)
    omega
  have e0 : IntKind.i64.wrap (n.tmod 65536) = n.tmod 65536 := i64is (by omega) (by omega)
  obtain ⟨m, hm⟩ : ∃ m, n.tmod 65536 = m := ⟨_, rfl⟩
  rw [hm] at h1 h2 e0 ⊢
  by_cases h3 : m < 0
  · rw [if_pos h3]
    have e1 : IntKind.i64.wrap (m + 65536) = m + 65536 := i64is (by omega) (by omega)
    by_cases h4 : m + 65536 > 32767
    · rw [if_pos h4]
      have e2 : IntKind.i64.wrap (m + 65536 - 65536) = m + 65536 - 65536 := i64is (by omega) (by omega)
      go_enter Tryz.func172, Tryz.ntmps172
      go_wp2
      go_ret
      exact ⟨by simp, rfl⟩
    · rw [if_neg h4]
      go_enter Tryz.func172, Tryz.ntmps172
      go_wp2
      go_ret
      exact ⟨by simp, rfl⟩
  · rw [if_neg h3]
    by_cases h4 : m > 32767
    · rw [if_pos h4]
      have e2 : IntKind.i64.wrap (m - 65536) = m - 65536 := i64is (by omega) (by omega)
      go_enter Tryz.func172, Tryz.ntmps172
      go_wp2
      go_ret
      exact ⟨by simp, rfl⟩
    · rw [if_neg h4]
      go_enter Tryz.func172, Tryz.ntmps172
      go_wp2
      go_ret
      exact ⟨by simp, rfl⟩
theorem specL2Turn (n : Int) (w : World) (h1 : -2147483648 ≤ n) (h2 : n ≤ 2147483648) : Calls Tryz.prog 170 #[.int .i64 n] w fun e w' => e = .returned (.int .i64 (turnS n)) ∧ w = w' := by
  rw [turnS]
  have e0 : IntKind.i64.wrap (n - -32768) = n + 32768 := by rw [Int.sub_neg]; exact i64is (by omega) (by omega)
  have e0' : n - -32768 = n + 32768 := by omega
  obtain ⟨k, hk⟩ : ∃ k, n + 32768 = k := ⟨_, rfl⟩
  rw [hk] at e0 e0' ⊢
  have h3 : -2147483648 ≤ k ∧ k ≤ 2147516416 := by omega
  clear h1 h2 hk
  have e1 := Int.tmod_lt_of_pos k (show (0 : Int) < 65536 by omega)
  have e2 := Int.lt_tmod_of_pos k (show (0 : Int) < 65536 by omega)
  have e3 := Int.mul_tdiv_add_tmod k 65536
  obtain ⟨m, hm⟩ : ∃ m, k.tmod 65536 = m := ⟨_, rfl⟩
  obtain ⟨t, ht⟩ : ∃ m, k.tdiv 65536 = m := ⟨_, rfl⟩
  rw [hm] at e1 e2 e3 ⊢
  rw [ht] at e3 ⊢
  have e4 : IntKind.i64.wrap m = m := i64is (by omega) (by omega)
  have e5 : IntKind.i64.wrap t = t := i64is (by omega) (by omega)
  have e6 : IntKind.i64.wrap (t - 1) = t - 1 := i64is (by omega) (by omega)
  have b1 := h3.1
  have b2 := h3.2
  have b3 : -40000 ≤ t := by omega
  have b4 : t ≤ 40000 := by omega
  clear e3 h3
  by_cases h4 : m < 0
  · rw [if_pos h4]
    go_enter Tryz.func170, Tryz.ntmps170
    go_wp2
    go_ret
    exact ⟨by simp, rfl⟩
  · rw [if_neg h4]
    go_enter Tryz.func170, Tryz.ntmps170
    go_wp2
    go_ret
    exact ⟨by simp, rfl⟩
theorem specItvAll (w : World) : Calls Tryz.prog 171 #[] w fun e w' => e = .returned (.agg #[.int .i64 (-32768), .int .i64 32767]) ∧ Grew w w' := by
  go_enter Tryz.func171, Tryz.ntmps171
  go_wp2
  go_returns
  exact ⟨rfl, by unfold Grew; go_grown⟩
set_option maxHeartbeats 1000000 in
theorem specItvFold (lo hi : Int) (w : World) (h1 : lo ≤ hi) (h2 : -2147483648 ≤ lo) (h3 : hi ≤ 2147483648) :
    Calls Tryz.prog 159 #[.int .i64 lo, .int .i64 hi] w fun e w' => e = .returned (foldI lo hi).v ∧ Grew w w' := by
  have HL := Lib.hid (fun W => specNumWrap lo W)
  have HH := Lib.hid (fun W => specNumWrap hi W)
  have HTL := Lib.hid (fun W => specL2Turn lo W (by omega) (by omega))
  have HTH := Lib.hid (fun W => specL2Turn hi W (by omega) (by omega))
  have HA := Lib.hid (fun W => specItvAll W)
  have H1 := Lib.hid (fun W => bool_is (l1In lo (-1099511627776) 1099511627776 W) (b := true) (by simp; omega))
  have H2 := Lib.hid (fun W => bool_is (l1In hi (-1099511627776) 1099511627776 W) (b := true) (by simp; omega))
  have ht := turn_iff lo hi
  rw [foldI]
  obtain ⟨p, hp⟩ : ∃ p, w16 lo = p := ⟨_, rfl⟩
  obtain ⟨q, hq⟩ : ∃ p, w16 hi = p := ⟨_, rfl⟩
  rw [hp] at HL ht ⊢
  rw [hq] at HH ht ⊢
  obtain ⟨x, hx⟩ : ∃ p, turnS lo = p := ⟨_, rfl⟩
  obtain ⟨y, hy⟩ : ∃ p, turnS hi = p := ⟨_, rfl⟩
  rw [hx] at HTL ht
  rw [hy] at HTH ht
  clear hp hq hx hy
  have a1 : ¬ hi < lo := by omega
  by_cases h : lo - p = hi - q
  · rw [if_pos h]
    have hb : (x != y) = false := by simp [ht.2 h]
    clear h ht
    go_enter Tryz.func159, Tryz.ntmps159
    go_wp2_with (first | ((with_reducible refine (HL.out _).mono ?_); rintro e w' ⟨rfl, rfl⟩) | ((with_reducible refine (HH.out _).mono ?_); rintro e w' ⟨rfl, rfl⟩) | ((with_reducible refine (HTL.out _).mono ?_); rintro e w' ⟨rfl, rfl⟩) | ((with_reducible refine (HTH.out _).mono ?_); rintro e w' ⟨rfl, rfl⟩) | ((with_reducible refine (H1.out _).mono ?_); rintro e w' ⟨rfl, rfl⟩) | ((with_reducible refine (H2.out _).mono ?_); rintro e w' ⟨rfl, rfl⟩))
    go_returns
    exact ⟨rfl, gr⟩
  · rw [if_neg h]
    have hb : (x != y) = true := by simp [ht, h]
    clear h ht
    go_enter Tryz.func159, Tryz.ntmps159
    go_wp2_with (first | ((with_reducible refine (HL.out _).mono ?_); rintro e w' ⟨rfl, rfl⟩) | ((with_reducible refine (HH.out _).mono ?_); rintro e w' ⟨rfl, rfl⟩) | ((with_reducible refine (HTL.out _).mono ?_); rintro e w' ⟨rfl, rfl⟩) | ((with_reducible refine (HTH.out _).mono ?_); rintro e w' ⟨rfl, rfl⟩) | ((with_reducible refine (H1.out _).mono ?_); rintro e w' ⟨rfl, rfl⟩) | ((with_reducible refine (H2.out _).mono ?_); rintro e w' ⟨rfl, rfl⟩) | ((with_reducible refine (HA.out _).mono ?_); rintro e w' ⟨rfl, g'⟩; (first | obtain ⟨z, rfl⟩ := ext_cold g' | obtain ⟨z, rfl⟩ := ext_col g' | obtain ⟨z, rfl⟩ := ext_of g'); clear g'))
    refine bodyPost_ret (by simp [results, Tryz.results159, go_sem]; try rfl) rfl ?_
    exact ⟨rfl, gr⟩
theorem specL2Span (a b c d : Int) (w : World) : Calls Tryz.prog 160 #[.int .i64 a, .int .i64 b, .int .i64 c, .int .i64 d] w fun e w' => e = .returned (spanI a b c d).v ∧ Grew w w' := by
  go_enter Tryz.func160, Tryz.ntmps160
  go_wp2
  go_returns
  have e1 : min a (min b (min c d)) = min (min a b) (min c d) := by omega
  have e2 : max a (max b (max c d)) = max (max a b) (max c d) := by omega
  exact ⟨by rw [e1, e2]; rfl, by unfold Grew; go_grown⟩
theorem specItvMeet (a b : Itv) (w : World) (ha : itvB a = true) (hb : itvB b = true) : Calls Tryz.prog 156 #[a.v, b.v] w fun e w' => e = .returned (optV (meetI a b)) ∧ Grew w w' := by
  have hA := fun W => specItvOk a W
  have hB := fun W => specItvOk b W
  rw [show itvOkB a.lo a.hi = true from ha] at hA
  rw [show itvOkB b.lo b.hi = true from hb] at hB
  have HA := Lib.hid hA
  have HB := Lib.hid hB
  rw [itvB_iff] at ha hb
  clear hA hB
  obtain ⟨al, ah⟩ := a
  obtain ⟨bl, bh⟩ := b
  dsimp only [Itv.v] at HA HB ⊢
  simp only at ha hb
  obtain ⟨p, hp⟩ : ∃ p, max al bl = p := ⟨_, rfl⟩
  obtain ⟨q, hq⟩ : ∃ q, min ah bh = q := ⟨_, rfl⟩
  by_cases h : q < p
  · have hV : meetI ⟨al, ah⟩ ⟨bl, bh⟩ = none := by
      rw [meetI, if_neg]
      rw [itvB_iff]
      simp only [cutI, hp, hq]
      omega
    rw [hV]
    have h' : min ah bh < max al bl := by omega
    clear hV hp hq h ha hb
    go_enter Tryz.func156, Tryz.ntmps156
    go_wp2_with (first | ((with_reducible refine (HA.out _).mono ?_); rintro e w' ⟨rfl, g'⟩; (first | obtain ⟨y, rfl⟩ := ext_cold g' | obtain ⟨y, rfl⟩ := ext_col g' | obtain ⟨y, rfl⟩ := ext_of g'); clear g') | ((with_reducible refine (HB.out _).mono ?_); rintro e w' ⟨rfl, g'⟩; (first | obtain ⟨z, rfl⟩ := ext_cold g' | obtain ⟨z, rfl⟩ := ext_col g' | obtain ⟨z, rfl⟩ := ext_of g'); clear g'))
    refine bodyPost_ret (by simp [results, Tryz.results156, go_sem]; try rfl) rfl ?_
    exact ⟨rfl, gr⟩
  · have hV : meetI ⟨al, ah⟩ ⟨bl, bh⟩ = some ⟨max al bl, min ah bh⟩ := by
      rw [meetI, if_pos]
      · rfl
      · rw [itvB_iff]
        simp only [cutI, hp, hq]
        omega
    rw [hV]
    have h' : ¬ min ah bh < max al bl := by omega
    clear hV hp hq h ha hb
    go_enter Tryz.func156, Tryz.ntmps156
    go_wp2_with (first | ((with_reducible refine (HA.out _).mono ?_); rintro e w' ⟨rfl, g'⟩; (first | obtain ⟨y, rfl⟩ := ext_cold g' | obtain ⟨y, rfl⟩ := ext_col g' | obtain ⟨y, rfl⟩ := ext_of g'); clear g') | ((with_reducible refine (HB.out _).mono ?_); rintro e w' ⟨rfl, g'⟩; (first | obtain ⟨z, rfl⟩ := ext_cold g' | obtain ⟨z, rfl⟩ := ext_col g' | obtain ⟨z, rfl⟩ := ext_of g'); clear g'))
    refine bodyPost_ret (by simp [results, Tryz.results156, go_sem]; try rfl) rfl ?_
    exact ⟨rfl, gr⟩
end Go.Proofs.YtpmfpgbpndobpaaGreat
