/- Contracts of the reference's drawn inputs for sums, numbers and frames, and of the laws' own small functions. No condition. -/
import Derived.Test.YtpnjkjpdfkkdkaaDraw
import Derived.Test.YtpnjkjpdfkkdkaaFrm
namespace Go.Proofs.Ytpnjkjpdfkkdkaa
open Go.RowKit
set_option linter.unusedVariables false

theorem owBytes (a : Option Addr) (n cap : Nat) (zs : List Int) (a' : Option Addr) (n' cap' : Nat) (ys : List Int) (w : World) (hr : Rd w a n 1 (ints .u8 zs)) (hr' : Rd w a' n' 1 (ints .u8 ys))
    (hm : n ≤ 140737488351232) (hm' : n' ≤ 140737488351232) :
    Calls Try.prog 33 #[.slice a n cap, .slice a' n' cap'] w fun e w' => e = .returned (.bool (decide (zs = ys))) ∧ ∃ q, w' = w.drewN q := by
  have hl := hr.len1
  have hl' := hr'.len1
  have HR := Lib.hid hr; clear hr
  have HR' := Lib.hid hr'; clear hr'
  have HL := Lib.hid hl; clear hl
  have HL' := Lib.hid hl'; clear hl'
  by_cases hn : n = n'
  · subst hn
    go_enter Try.func33, Try.ntmps33
    go_wp2
    go_loopw [5] (fun i wr => ∃ k : Nat, k ≤ n ∧ i = .int .i64 k ∧ (∃ q, wr = w.drewN q) ∧ zs.take k = ys.take k) (fun i _ => n - (intOf i).toNat)
    case atStart => exact ⟨0, Nat.zero_le _, rfl, ⟨0, rfl⟩, by simp⟩
    case round =>
      obtain ⟨k, hk, rfl, ⟨q, rfl⟩, he⟩ := hrel
      have HE := Lib.hid he; clear he
      by_cases hlt : k < n
      · obtain ⟨b, off, x, rfl, hx, hcell⟩ := HR.out.at1 hlt
        obtain ⟨b', off', y, rfl, hy, hcell'⟩ := HR'.out.at1 hlt
        have HX := Lib.hid hx; clear hx
        have HY := Lib.hid hy; clear hy
        by_cases hxy : x = y
        · subst hxy
          go_wp2
          go_quiet (fail)
          go_wp2
          go_roundw
          case rel => exact ⟨k + 1, by omega, by go_num, ⟨_, rfl⟩, by rw [take_get HX.out, take_get HY.out, HE.out]⟩
          case measure => simp [intOf]; omega
        · have hb : (x == y) = false := by simp [hxy]
          have hb' : (x != y) = true := by simp [hxy]
          have hfin : decide (zs = ys) = false := by
            apply decide_eq_false
            intro e
            have h1 := HX.out
            rw [e, HY.out] at h1
            exact hxy (Option.some.inj h1).symm
          have HF := Lib.hid hfin; clear hfin hxy
          go_wp2
          go_quiet (fail)
          go_wp2
          go_ret
          exact ⟨by rw [HF.out]; rfl, _, World.drewN_drewN _ _ _⟩
      · go_wp2
        go_ret
        have : zs = ys := by
          have h := HE.out
          rwa [List.take_of_length_le (by have := HL.out; omega), List.take_of_length_le (by have := HL'.out; omega)] at h
        exact ⟨by rw [decide_eq_true this]; rfl, _, rfl⟩
  · have hfin : decide (zs = ys) = false := by
      apply decide_eq_false
      intro e
      have h1 := HL.out
      rw [e, HL'.out] at h1
      exact hn h1.symm
    have hb : ((n : Int) != (n' : Int)) = true := by simp; omega
    have HF := Lib.hid hfin; clear hfin hn
    go_enter Try.func33, Try.ntmps33
    go_wp2
    go_ret
    exact ⟨by rw [HF.out]; rfl, 0, rfl⟩


theorem owNorm (n : Int) (h0 : -9223372036854775808 ≤ n) (h1 : n ≤ 9223372036854775807) (w : World) :
    Calls Try.prog 26 #[.int .i64 n] w fun e w' => e = .returned (.int .i64 (n % 65536)) ∧ w = w' := by
  by_cases hn : 0 ≤ n
  · go_enter Try.func26, Try.ntmps26
    go_wp2
    go_ret
    exact ⟨rfl, rfl⟩
  · have ht : n.tmod 65536 = -((-n) % 65536) := by
      obtain ⟨m, rfl⟩ : ∃ m, n = -m := ⟨-n, by omega⟩
      rw [Int.neg_tmod, Int.tmod_eq_emod_of_nonneg (by omega), Int.neg_neg]
    by_cases hz : (-n) % 65536 = 0
    · have hf : n % 65536 = 0 := by omega
      have ht' : n.tmod 65536 = 0 := by omega
      have HF := Lib.hid hf; clear hf ht hz
      go_enter Try.func26, Try.ntmps26
      go_wp2
      go_ret
      exact ⟨by rw [HF.out]; rfl, rfl⟩
    · obtain ⟨m, hm⟩ : ∃ m, n.tmod 65536 = m := ⟨_, rfl⟩
      have hm1 : m < 0 := by omega
      have hm2 : -65536 < m := by omega
      have hf : n % 65536 = m + 65536 := by omega
      have HF := Lib.hid hf; clear hf ht hz
      go_enter Try.func26, Try.ntmps26
      go_wp2
      go_ret
      exact ⟨by rw [HF.out]; rfl, rfl⟩

theorem numOk_one (w : World) : Calls Try.prog 44 #[.int .i64 1] w fun e w' => e = .returned (.bool true) ∧ w = w' := by
  go_enter Try.func44, Try.ntmps44
  go_wp2
  go_ret
  exact ⟨rfl, rfl⟩
theorem owOk (w : World) : Calls Try.prog 30 #[] w fun e w' => e = .returned (.bool true) ∧ w = w' := by
  go_enter Try.func30, Try.ntmps30
  go_wp2_with fail
  refine (numOk_one w).mono ?_
  rintro e w' ⟨rfl, rfl⟩
  go_wp2
  go_ret
  exact ⟨rfl, rfl⟩

theorem l21Body (g P : Nat) (k : Int) (w : World) (h : RdLe w g P) (hp : P + 43 ≤ 1099511627776) (hk : -1099511627776 ≤ k ∧ k ≤ 1099511627776) :
    Calls Try.prog 43 #[.pointer (some ⟨g, 0, none⟩), .int .i64 k] w (RetBs w.heap.size g (P + 43) 2001 w) := by
  have hg := h.lt
  have HP := Lib.hid h; clear h
  go_enter Try.func43, Try.ntmps43
  go_wp2_with fail
  refine (l21Bytes g P w HP.out (by omega)).mono ?_
  rintro e w1 ⟨v, n, zs, rfl, hz, hn, ho, hr, hc⟩
  have Z1 := Lib.hid hz; clear hz
  have O1 := Lib.hid ho; clear ho
  have D1 := Lib.hid hr; clear hr
  have C1 := Lib.hid hc; clear hc
  go_wp2_with fail
  refine (odd g (P + 41) k w1 D1.out (by omega) hk).mono ?_
  rintro e w2 ⟨b, rfl, hr, hc⟩
  have ho2 := owns_chg O1.out hc (fun b hb e => by have := (O1.out.lt b hb).1; omega)
  have O2 := Lib.hid ho2; clear ho2
  have C2 := Lib.hid (C1.out.trans hc); clear hc
  have D2 := Lib.hid hr; clear hr
  clear O1 C1 D1
  cases b
  · go_wp2
    go_ret
    exact ⟨v, n, zs, rfl, Z1.out, by omega, O2.out, D2.out.mono (by omega), C2.out⟩
  · obtain ⟨a1, c1, rfl⟩ := owns_slice O2.out
    obtain ⟨L, hL⟩ : ∃ L : Nat, 2000 ≤ L := ⟨2000, Nat.le_refl _⟩
    go_wp2
    go_loopw [5] (fun v wr => ∃ (n : Nat) (zs : List Int) (a : Option Addr) (c : Nat), n ≤ 2000 ∧ v = .slice a n c ∧ Bs zs ∧ wr.ownsRow w.heap.size 5 1 (.slice a n c) n (ints .u8 zs) ∧ RdLe wr g (P + 42) ∧ ChgG g w wr) (fun v _ => L - sliceLen v)
    case atStart => exact ⟨n, zs, a1, c1, by omega, rfl, Z1.out, O2.out, D2.out.mono (by omega), C2.out⟩
    case round =>
      obtain ⟨n, zs, a, c, hn, rfl, hz, ho, hr, hc⟩ := hrel
      have Z3 := Lib.hid hz; clear hz
      have O3 := Lib.hid ho; clear ho
      have D3 := Lib.hid hr; clear hr
      have C3 := Lib.hid hc; clear hc
      by_cases hlt : n < 2000
      · obtain ⟨v4, w4, hrun4, o4, g4, -⟩ := owns_append_lit (P := Try.prog) wr byteEl O3.out 1 [.int .u8 ((n : Int) % 7)] rfl (by simp [Value.oneCell']) (by omega) (by omega) C3.out.size
        obtain ⟨a4, c4, rfl⟩ := owns_slice o4
        have C4 := Lib.hid (C3.out.to_g g4 (fun b hb => (O3.out.lt b hb).1))
        have D4 := Lib.hid (D3.out.chg (Chg.of_grownBy g4) (fun b hb e => by have := (O3.out.lt b e).1; omega))
        have R4 := Lib.hid hrun4; clear hrun4
        have O4 := Lib.hid o4; clear o4 g4
        have hd : (n : Int) < 2000 := by omega
        have HL := Lib.hid hL; clear hL
        have HN := Lib.hid hn; clear hn
        have HT := Lib.hid hlt; clear hlt
        go_wp2_with (at_builtin; refine wpList_append_run rfl _ _ rfl rfl rfl rfl R4.out ?_)
        go_roundw
        case rel => exact ⟨n + 1, zs ++ [(n : Int) % 7], a4, c4, by have := HT.out; omega, rfl, bs_app Z3.out (bs_one _ (by omega) (by omega)), by rw [ints_append]; exact O4.out, D4.out, C4.out⟩
        case measure => simp [sliceLen]; have := HT.out; have := HL.out; omega
      · obtain rfl : n = 2000 := by omega
        go_wp2_with fail
        refine (pickLe g (P + 42) _ _ D3.out (by omega) (by omega)).mono ?_
        rintro e w5 ⟨u, rfl, ⟨u0, u1⟩, h2, h3⟩
        have ho5 := owns_chg O3.out h3 (fun b hb e => by have := (O3.out.lt b hb).1; omega)
        obtain ⟨v6, w6, hrun6, o6, g6, -⟩ := owns_append_lit (P := Try.prog) w5 byteEl ho5 1 [.int .u8 9] rfl (by simp [Value.oneCell']) (by omega) (by omega) (Nat.le_trans C3.out.size h3.size)
        have C5 := Lib.hid (C3.out.trans h3)
        have C6 := Lib.hid (C5.out.to_g g6 (fun b hb => (ho5.lt b hb).1))
        have D6 := Lib.hid (h2.chg (Chg.of_grownBy g6) (fun b hb e => by have := (ho5.lt b e).1; omega))
        have D5 := Lib.hid h2; clear h2 h3
        have R6 := Lib.hid hrun6; clear hrun6
        have O6 := Lib.hid o6; clear o6 g6
        have O5 := Lib.hid ho5; clear ho5
        have u1 := u1 (by omega)
        by_cases hu : u = 0
        · subst hu
          go_wp2_with (at_builtin; refine wpList_append_run rfl _ _ rfl rfl rfl rfl R6.out ?_)
          go_ret
          exact ⟨_, 2001, zs ++ [9], rfl, bs_app Z3.out (bs_one _ (by omega) (by omega)), by omega, by rw [ints_append]; exact O6.out, D6.out.mono (by omega), C6.out⟩
        · have hu' : (u == 0) = false := by simpa using hu
          clear hu
          go_wp2
          go_ret
          exact ⟨_, 2000, zs, rfl, Z3.out, by omega, O5.out, D5.out.mono (by omega), C5.out⟩

theorem DrawFrmSum (a : Option Addr) (n cap : Nat) (zs : List Int) (w : World) (hr : Rd w a n 1 (ints .u8 zs)) (hz : Bs zs) (hc : n ≤ cap ∧ cap ≤ maxLen) :
    Calls Try.prog 24 #[.slice a n cap] w fun e w' => ∃ v n zs, e = .returned v ∧ Bs zs ∧ n ≤ 20 ∧ w'.ownsRow w.heap.size 5 1 v n (ints .u8 zs) ∧ Grew w w' := by
  have HR := Lib.hid hr; clear hr
  have HZ := Lib.hid hz; clear hz
  go_enter Try.func24, Try.ntmps24
  go_wp2_with fail
  refine (l20Open _ _ _ _ _ HR.out HZ.out hc).mono ?_
  rintro e w1 ⟨rfl, h1, h2⟩
  have H1 := Lib.hid h1; clear h1
  have H2 := Lib.hid h2; clear h2
  go_wp2_with fail
  refine (l21Bytes _ 0 _ H1.out (by omega)).mono ?_
  rintro e w2 ⟨v, n, zs, rfl, hz, hn, ho, hr, hc⟩
  have Z2 := Lib.hid hz; clear hz
  have O2 := Lib.hid (owns_mono ho H2.out.size); clear ho
  have B2 := Lib.hid (H2.out.trans (hc.belowB H2.out.size (fun k hk => by omega))); clear hc hr
  go_wp2
  go_ret
  exact ⟨_, n, zs, rfl, Z2.out, hn, O2.out, B2.out⟩

theorem DrawFrmPut (a : Option Addr) (n cap : Nat) (zs : List Int) (w : World) (hr : Rd w a n 1 (ints .u8 zs)) (hz : Bs zs) (hc : n ≤ cap ∧ cap ≤ maxLen) :
    Calls Try.prog 29 #[.slice a n cap] w fun e w' => ∃ v n zs, e = .returned v ∧ Bs zs ∧ n ≤ 2001 ∧ w'.ownsRow w.heap.size 5 1 v n (ints .u8 zs) ∧ Grew w w' := by
  have HR := Lib.hid hr; clear hr
  have HZ := Lib.hid hz; clear hz
  go_enter Try.func29, Try.ntmps29
  go_wp2_with fail
  refine (l20Open _ _ _ _ _ HR.out HZ.out hc).mono ?_
  rintro e w1 ⟨rfl, h1, h2⟩
  have H1 := Lib.hid h1; clear h1
  have H2 := Lib.hid h2; clear h2
  go_wp2_with fail
  refine (l21Body _ 0 _ _ H1.out (by omega) (by omega)).mono ?_
  rintro e w2 ⟨v, n, zs, rfl, hz, hn, ho, hr, hc⟩
  have Z2 := Lib.hid hz; clear hz
  have O2 := Lib.hid (owns_mono ho H2.out.size); clear ho
  have B2 := Lib.hid (H2.out.trans (hc.belowB H2.out.size (fun k hk => by omega))); clear hc hr
  go_wp2
  go_ret
  exact ⟨_, n, zs, rfl, Z2.out, hn, O2.out, B2.out⟩

theorem DrawInputs (a : Option Addr) (n cap : Nat) (zs : List Int) (w : World) (hr : Rd w a n 1 (ints .u8 zs)) (hz : Bs zs) (hc : n ≤ cap ∧ cap ≤ maxLen) :
    Calls Try.prog 25 #[.slice a n cap] w fun e w' => ∃ x v ys, e = .returned (.tuple #[.int .i64 x, v]) ∧ N16 x ∧ Ns ys ∧ w'.ownsRow w.heap.size 3 1 v 12 (ints .i64 ys) ∧ Grew w w' := by
  have HR := Lib.hid hr; clear hr
  have HZ := Lib.hid hz; clear hz
  go_enter Try.func25, Try.ntmps25
  go_wp2_with fail
  refine (l20Open _ _ _ _ _ HR.out HZ.out hc).mono ?_
  rintro e w1 ⟨rfl, h1, h2⟩
  have H1 := Lib.hid h1; clear h1
  have H2 := Lib.hid h2; clear h2
  go_wp2_with fail
  refine (l20Num _ 0 _ H1.out (by omega)).mono ?_
  rintro e w2 ⟨x, rfl, hx, h3, h4⟩
  have H3 := Lib.hid h3; clear h3
  have HX := Lib.hid hx; clear hx
  have B2 := Lib.hid (H2.out.trans (h4.belowB H2.out.size (fun k hk => by omega))); clear h4
  go_wp2_with fail
  refine (l20Nums _ 3 12 _ H3.out (by omega)).mono ?_
  rintro e w3 ⟨v, ys, rfl, hy, ho, hr, hc⟩
  have HY := Lib.hid hy; clear hy
  have O3 := Lib.hid (owns_mono ho B2.out.size); clear ho
  have B3 := Lib.hid (B2.out.trans (hc.belowB B2.out.size (fun k hk => by omega))); clear hc hr
  go_wp2
  go_ret2
  exact ⟨x, v, ys, rfl, HX.out, HY.out, O3.out, B3.out⟩
end Go.Proofs.Ytpnjkjpdfkkdkaa
