/- The walk of the law on numbers that are sent and read. No condition. -/
import Derived.Test.YtpnjkjpdfkkdkaaDrawY
import Derived.Deep.RegionHeld3
namespace Go.Proofs.Ytpnjkjpdfkkdkaa
open Go.RowKit
set_option linter.unusedVariables false

theorem wirTake_put (zs : List Int) (m : Int) (h0 : -8000000 ≤ m) (h1 : m ≤ 8000000) : wirTake (wirPut zs m) (wirPut zs m).length zs.length = (m, true) := by
  have hp : wirPut zs m = zs ++ wirB (m + 8000000) := if_pos ⟨h0, h1⟩
  have hl : (wirPut zs m).length = zs.length + 3 := by rw [hp]; simp [wirB]
  unfold wirTake
  rw [if_neg (by rw [hl]; omega), hp]
  have e0 : (zs ++ wirB (m + 8000000)).getD ((zs.length : Int)).toNat 0 = (m + 8000000) / 65536 := by
    rw [Int.toNat_natCast, List.getD_eq_getElem?_getD, List.getElem?_append_right (Nat.le_refl _)]
    simp [wirB]
  have e1 : (zs ++ wirB (m + 8000000)).getD (((zs.length : Int)).toNat + 1) 0 = (m + 8000000) / 256 % 256 := by
    rw [Int.toNat_natCast, List.getD_eq_getElem?_getD, List.getElem?_append_right (by omega)]
    simp [wirB]
  have e2 : (zs ++ wirB (m + 8000000)).getD (((zs.length : Int)).toNat + 2) 0 = (m + 8000000) % 256 := by
    rw [Int.toNat_natCast, List.getD_eq_getElem?_getD, List.getElem?_append_right (by omega)]
    simp [wirB]
  rw [e0, e1, e2]
  have e3 : wirN ((m + 8000000) / 65536) ((m + 8000000) / 256 % 256) ((m + 8000000) % 256) = m + 8000000 := by
    unfold wirN
    omega
  rw [e3, if_neg (by omega)]
  congr 1
  omega

theorem wirTake_yes {zs : List Int} (hz : Bs zs) {n : Nat} (hn : zs.length = n) {at_ m : Int} (h : wirTake zs n at_ = (m, true)) :
    ∃ k : Nat, at_ = k ∧ k + 3 ≤ n ∧ -8000000 ≤ m ∧ m ≤ 8000000 ∧ wirPut [] m = (zs.drop k).take 3 := by
  unfold wirTake at h
  by_cases h1 : at_ < 0 ∨ at_ > (n : Int) - 3
  · rw [if_pos h1] at h
    cases h
  · rw [if_neg h1] at h
    obtain ⟨k, rfl⟩ := Int.eq_ofNat_of_zero_le (show 0 ≤ at_ by omega)
    rw [Int.toNat_natCast] at h
    have hk : k + 3 ≤ n := by omega
    obtain ⟨x, hx⟩ : ∃ x, zs[k]? = some x := ⟨zs[k]'(by omega), List.getElem?_eq_getElem (by omega)⟩
    obtain ⟨y, hy⟩ : ∃ x, zs[k + 1]? = some x := ⟨zs[k + 1]'(by omega), List.getElem?_eq_getElem (by omega)⟩
    obtain ⟨z, hzz⟩ : ∃ x, zs[k + 2]? = some x := ⟨zs[k + 2]'(by omega), List.getElem?_eq_getElem (by omega)⟩
    simp only [List.getD_eq_getElem?_getD, hx, hy, hzz, Option.getD_some] at h
    have b1 := hz _ _ hx
    have b2 := hz _ _ hy
    have b3 := hz _ _ hzz
    by_cases hN : wirN x y z > 16000000
    · rw [if_pos hN] at h
      cases h
    · rw [if_neg hN] at h
      have hm : m = wirN x y z - 8000000 := by
        injection h with h _
        exact h.symm
      have hNe : wirN x y z = x * 65536 + y * 256 + z := rfl
      refine ⟨k, rfl, hk, by omega, by omega, ?_⟩
      have hd : (zs.drop k).take 3 = [x, y, z] := by
        apply List.ext_getElem?
        intro i
        rw [List.getElem?_take]
        match i with
        | 0 => simpa using hx
        | 1 => simpa using hy
        | 2 => simpa using hzz
        | (j + 3) => rw [if_neg (by omega)]; rfl
      have hp : wirPut [] m = [] ++ wirB (m + 8000000) := if_pos ⟨by omega, by omega⟩
      rw [hp, hd]
      have e : m + 8000000 = x * 65536 + y * 256 + z := by omega
      rw [e]
      simp only [wirB, List.nil_append]
      rw [show (x * 65536 + y * 256 + z) / 65536 = x by omega, show (x * 65536 + y * 256 + z) / 256 % 256 = y by omega, show (x * 65536 + y * 256 + z) % 256 = z by omega]

set_option maxHeartbeats 2000000 in
theorem lawFnWirTake (a : Option Addr) (n cap : Nat) (zs : List Int) (a' : Option Addr) (n' cap' : Nat) (zs' : List Int) (w : World) (hr : Rd w a n 1 (ints .u8 zs)) (hz : Bs zs) (hc : n ≤ cap ∧ cap ≤ maxLen)
    (hr' : Rd w a' n' 1 (ints .u8 zs')) (hz' : Bs zs') (hc' : n' ≤ cap' ∧ cap' ≤ maxLen) :
    Calls Try.prog 10 #[.slice a n cap, .slice a' n' cap'] w fun e w' => e = .returned (.bool true) ∧ Grew w w' := by
  have HR := Lib.hid hr; clear hr
  have HZ := Lib.hid hz; clear hz
  have HR' := Lib.hid hr'; clear hr'
  have HZ' := Lib.hid hz'; clear hz'
  have HC := Lib.hid hc
  have HC' := Lib.hid hc'
  obtain ⟨hc1, hc2⟩ := hc
  obtain ⟨hc3, hc4⟩ := hc'
  unfold maxLen at hc2 hc4
  by_cases hbig : 1048576 < n
  · have hb : decide ((1048576 : Int) < (n : Int)) = true := by simp; omega
    go_enter Try.func10, Try.ntmps10
    go_wp2
    go_ret
    exact ⟨rfl, Below.refl _ _⟩
  · have hb : decide ((1048576 : Int) < (n : Int)) = false := by simp; omega
    by_cases hbig' : 1048576 < n'
    · have hb' : (1048576 : Int) < (n' : Int) := by omega
      clear hbig
      go_enter Try.func10, Try.ntmps10
      go_wp2
      go_ret
      exact ⟨rfl, Below.refl _ _⟩
    · have hb' : ¬ (1048576 : Int) < (n' : Int) := by omega
      clear hbig hbig' hc1 hc2 hc3 hc4
      obtain ⟨w0, rfl⟩ : ∃ w0, w0 = w := ⟨_, rfl⟩
      go_enter Try.func10, Try.ntmps10
      go_wp2_with fail
      refine (DrawWirPut _ _ _ _ _ HR.out HZ.out HC.out).mono ?_
      rintro e w1 ⟨v1, p, ys, x, rfl, hys, hp, ⟨hx0, hx1⟩, o1, b1⟩
      obtain ⟨a1, c1, rfl⟩ := owns_slice o1
      have HY := Lib.hid hys; clear hys
      have O1 := Lib.hid o1; clear o1
      have B1 := Lib.hid b1; clear b1
      go_wp2_with fail
      refine (DrawWirTake _ _ _ _ _ (HR'.out.grew B1.out) HZ'.out HC'.out).mono ?_
      rintro e w2 ⟨v2, m, us, q, rfl, hus, hm, ⟨hq0, hq1⟩, o2, b2⟩
      obtain ⟨a2, c2, rfl⟩ := owns_slice o2
      have HU := Lib.hid hus; clear hus
      have O1 := Lib.hid (owns_grew O1.out b2)
      have O2 := Lib.hid o2; clear o2
      have B2 := Lib.hid (B1.out.trans (b2.mono B1.out.size)); clear B1 b2
      have hcc := owns_cap O2.out
      obtain ⟨hcc1, hcc2⟩ := hcc
      unfold maxLen at hcc2
      obtain ⟨M, hM⟩ : ∃ M, (wirTake us m q).1 = M := ⟨_, rfl⟩
      obtain ⟨K, hK⟩ : ∃ K, (wirTake us m q).2 = K := ⟨_, rfl⟩
      have HM := Lib.hid hM; clear hM
      have HK := Lib.hid hK; clear hK
      have hti := implWirTake a2 m c2 us q w2 (owns_rd O2.out) HU.out (by omega)
      rw [HM.out, HK.out] at hti
      have TI := Lib.hid hti; clear hti
      go_wp2_with fail
      refine TI.out.mono ?_
      rintro e w3 ⟨rfl, q3, e3⟩
      have b3 : Grew w2 w3 := by rw [e3]; exact grew_drewN _ _
      clear e3 TI
      have O1 := Lib.hid (owns_grew O1.out b3)
      have O2 := Lib.hid (owns_grew O2.out b3)
      have B3 := Lib.hid (B2.out.trans (b3.mono B2.out.size)); clear B2 b3
      have hti := specWirTake a2 m c2 us q w3 (owns_rd O2.out) HU.out (by omega)
      rw [HM.out, HK.out] at hti
      have TI := Lib.hid hti; clear hti
      go_wp2_with fail
      refine TI.out.mono ?_
      rintro e w4 ⟨rfl, q4, e4⟩
      have b4 : Grew w3 w4 := by rw [e4]; exact grew_drewN _ _
      clear e4 TI
      have O1 := Lib.hid (owns_grew O1.out b4)
      have O2 := Lib.hid (owns_grew O2.out b4)
      have B4 := Lib.hid (B3.out.trans (b4.mono B3.out.size)); clear B3 b4
      go_wp2_with fail
      refine (implWirPut _ _ _ _ x _ (owns_rd O1.out) (by omega)).mono ?_
      rintro e w5 ⟨v5, rfl, o5, b5⟩
      obtain ⟨a5, c5, rfl⟩ := owns_slice o5
      have O1 := Lib.hid (owns_grew O1.out b5)
      have O2 := Lib.hid (owns_grew O2.out b5)
      have O5 := Lib.hid o5; clear o5
      have B5 := Lib.hid (B4.out.trans (b5.mono B4.out.size)); clear B4 b5
      obtain ⟨X, hX⟩ : ∃ X, wirPut ys x = X := ⟨_, rfl⟩
      have hXl : X.length ≤ 23 := by
        have h1 := wirPut_len ys x
        have h2 := (owns_rd O1.out).len1
        rw [hX] at h1
        omega
      have HX := Lib.hid hX; clear hX
      rw [HX.out] at O5 ⊢
      obtain ⟨N, hN⟩ : ∃ N, X.length = N := ⟨_, rfl⟩
      have HN := Lib.hid hN; clear hN
      rw [HN.out] at O5 hXl ⊢
      have hXB : Bs X := by rw [← HX.out]; exact bs_wirPut HY.out x
      have HXB := Lib.hid hXB; clear hXB
      have hti := specWirPut _ _ c1 _ x _ (owns_rd O1.out) (by omega)
      rw [HX.out, HN.out] at hti
      have TI := Lib.hid hti; clear hti
      go_wp2_with fail
      refine TI.out.mono ?_
      rintro e w6 ⟨v6, rfl, o6, b6⟩
      clear TI
      obtain ⟨a6, c6, rfl⟩ := owns_slice o6
      have O1 := Lib.hid (owns_grew O1.out b6)
      have O2 := Lib.hid (owns_grew O2.out b6)
      have O5 := Lib.hid (owns_grew O5.out b6)
      have O6 := Lib.hid o6; clear o6
      have B6 := Lib.hid (B5.out.trans (b6.mono B5.out.size)); clear B5 b6
      go_wp2_with fail
      refine (owBytes _ _ _ _ _ _ _ _ _ (owns_rd O5.out) (owns_rd O6.out) (by omega) (by omega)).mono ?_
      rintro e w7 ⟨rfl, q7, e7⟩
      have b7 : Grew w6 w7 := by rw [e7]; exact grew_drewN _ _
      clear e7 O6
      have O1 := Lib.hid (owns_grew O1.out b7)
      have O2 := Lib.hid (owns_grew O2.out b7)
      have O5 := Lib.hid (owns_grew O5.out b7)
      have B7 := Lib.hid (B6.out.trans (b7.mono B6.out.size)); clear B6 b7
      cases K
      · go_wp2_with fail
        go_quiet (fail)
        have b8 : Grew w7 (w7.drewN nq) := grew_drewN _ _
        have O1 := Lib.hid (owns_grew O1.out b8)
        have O5 := Lib.hid (owns_grew O5.out b8)
        have BW := Lib.hid (B7.out.trans (b8.mono B7.out.size)); clear B7 b8 O2
        obtain ⟨w8, hw8⟩ : ∃ w8, w8 = w7.drewN nq := ⟨_, rfl⟩
        rw [← hw8] at O1 O5 BW ⊢
        clear hw8
        by_cases hin : -8000000 ≤ x ∧ x ≤ 8000000
        · have hq := wirTake_put ys x hin.1 hin.2
          have hpl := (owns_rd O1.out).len1
          rw [HX.out, HN.out, hpl] at hq
          have hXe : X = ys ++ wirB (x + 8000000) := by rw [← HX.out]; exact if_pos hin
          have hNe : N = p + 3 := by rw [← HN.out, hXe, List.length_append, hpl]; rfl
          obtain ⟨hin1, hin2⟩ := hin
          have d1 : decide (x < -8000000) = false := by simp; omega
          have d2 : decide (8000000 < x) = false := by simp; omega
          subst hNe
          have hti := implWirTake a5 (p + 3) c5 X p w8 (owns_rd O5.out) HXB.out (by omega)
          rw [hq] at hti
          have TI := Lib.hid hti; clear hti hq
          have hcap := owns_cap O5.out
          unfold maxLen at hcap
          obtain ⟨hcap1, hcap2⟩ := hcap
          have HPL := Lib.hid hpl; clear hpl
          have HXE := Lib.hid hXe; clear hXe
          go_wp2_with fail
          refine TI.out.mono ?_
          rintro e w9 ⟨rfl, q9, e9⟩
          have b9 : Grew w8 w9 := by rw [e9]; exact grew_drewN _ _
          clear e9 TI
          have O1 := Lib.hid (owns_grew O1.out b9)
          have O5 := Lib.hid (owns_grew O5.out b9)
          have B9 := Lib.hid (BW.out.trans (b9.mono BW.out.size)); clear b9
          obtain ⟨b5, off5, rfl⟩ : ∃ b off, a5 = some ⟨b, off, none⟩ := by
            obtain ⟨b, off, _, e, _⟩ := (owns_rd O5.out).at1 (i := 0) (by omega)
            exact ⟨b, off, e⟩
          have hsub := (owns_rd O5.out).sub 0 p (by omega)
          simp only [Nat.add_zero, List.drop_zero] at hsub
          have htk : X.take p = ys := by rw [HXE.out, ← HPL.out]; exact List.take_left
          rw [htk] at hsub
          have SB := Lib.hid hsub; clear hsub htk
          go_wp2_with fail
          refine (owBytes _ _ _ _ _ _ _ _ _ SB.out (owns_rd O1.out) (by omega) (by omega)).mono ?_
          rintro e w10 ⟨rfl, q10, e10⟩
          have b10 : Grew w9 w10 := by rw [e10]; exact grew_drewN _ _
          clear e10
          have B10 := Lib.hid (B9.out.trans (b10.mono B9.out.size)); clear b10
          go_wp2
          go_ret
          exact ⟨rfl, B10.out⟩
        · have hXe : X = ys := by rw [← HX.out]; exact if_neg hin
          have hpl := (owns_rd O1.out).len1
          have hNe : N = p := by rw [← HN.out, hXe, hpl]
          subst hNe
          subst hXe
          clear hpl
          by_cases hlo : x < -8000000
          · have d1 : decide (x < -8000000) = true := by simpa using hlo
            clear hin
            go_wp2_with fail
            refine (owBytes _ _ _ _ _ _ _ _ _ (owns_rd O5.out) (owns_rd O1.out) (by omega) (by omega)).mono ?_
            rintro e w10 ⟨rfl, q10, e10⟩
            have b10 : Grew w8 w10 := by rw [e10]; exact grew_drewN _ _
            clear e10
            have B10 := Lib.hid (BW.out.trans (b10.mono BW.out.size)); clear b10
            go_wp2_with fail
            refine (owOk _).mono ?_
            rintro e w' ⟨rfl, rfl⟩
            go_wp2
            go_ret
            exact ⟨rfl, B10.out⟩
          · have d1 : decide (x < -8000000) = false := by simpa using hlo
            have d2 : decide (8000000 < x) = true := by simp; omega
            clear hin
            go_wp2_with fail
            refine (owBytes _ _ _ _ _ _ _ _ _ (owns_rd O5.out) (owns_rd O1.out) (by omega) (by omega)).mono ?_
            rintro e w10 ⟨rfl, q10, e10⟩
            have b10 : Grew w8 w10 := by rw [e10]; exact grew_drewN _ _
            clear e10
            have B10 := Lib.hid (BW.out.trans (b10.mono BW.out.size)); clear b10
            go_wp2_with fail
            refine (owOk _).mono ?_
            rintro e w' ⟨rfl, rfl⟩
            go_wp2
            go_ret
            exact ⟨rfl, B10.out⟩
      · have hok : wirTake us m q = (M, true) := by rw [← HM.out, ← HK.out]
        obtain ⟨k, hqk, hk3, hM0, hM1, hput⟩ := wirTake_yes HU.out (owns_rd O2.out).len1 hok
        subst hqk
        obtain ⟨b2, off2, rfl⟩ : ∃ b off, a2 = some ⟨b, off, none⟩ := by
          obtain ⟨b, off, _, e, _⟩ := (owns_rd O2.out).at1 (i := 0) (by omega)
          exact ⟨b, off, e⟩
        have hsub := (owns_rd O2.out).sub k 3 (by omega)
        have SU := Lib.hid hsub; clear hsub
        have HP := Lib.hid hput; clear hput hok
        have hput3 : (wirPut [] M).length = 3 := by rw [show wirPut [] M = [] ++ wirB (M + 8000000) from if_pos ⟨hM0, hM1⟩]; rfl
        have HP3 := Lib.hid hput3; clear hput3
        have hw3 : IntKind.i64.wrap ((k : Int) + 3) = (k : Int) + 3 := IntWalk.i64_in _ (by omega)
        have HH := Lib.hid hcc2; clear hcc2
        have hk4 : k + 3 ≤ c2 := by omega
        have hk5 : (0 : Int) ≤ (k : Int) := by omega
        have hk6 : (k : Int) ≤ (k : Int) + 3 := by omega
        have hk7 : (k : Int) + 3 ≤ (c2 : Int) := by omega
        have hk8 : (k : Int) < (c2 : Int) := by omega
        have hk9 : k < c2 := by omega
        clear hq0 hq1
        go_wp2_with fail
        go_region_held3 (fun _ => True) (first | trivial | trivial) (first
          | (go_at_call 19; refine (implWirPut _ 0 _ [] M _ (Rd.nil _ _ _) (by omega)).mono ?_; rintro e w8 ⟨v8, rfl, o8, b8⟩; rw [HP3.out, HP.out] at o8; obtain ⟨a8, c8, rfl⟩ := owns_slice o8; have b8' : Grew w7 w8 := (((Below.refl _ _).alloc (Nat.le_refl _) _).drew).trans (b8.mono (by simp)); have O8 := Lib.hid o8; have B8 := Lib.hid b8'; clear o8 b8 b8')
          | (go_at_call 33; rw [show ((k : Int) + 3).toNat - k = 3 from by omega]; refine (owBytes _ _ _ _ _ _ _ _ _ (owns_rd O8.out) (SU.out.grew B8.out) (by omega) (by omega)).mono ?_; rintro e w19 ⟨rfl, q19, e19⟩; have b19 : Grew w8 w19 := (by rw [e19]; exact grew_drewN _ _); clear e19))
        all_goals
          have O1 := Lib.hid (owns_grew (owns_grew O1.out B8.out) b19)
          have O5 := Lib.hid (owns_grew (owns_grew O5.out B8.out) b19)
          have BW := Lib.hid (B7.out.trans ((B8.out.trans (b19.mono B8.out.size)).mono B7.out.size)); clear B7 B8 b19 O2 O8
          by_cases hin : -8000000 ≤ x ∧ x ≤ 8000000
          · have hq := wirTake_put ys x hin.1 hin.2
            have hpl := (owns_rd O1.out).len1
            rw [HX.out, HN.out, hpl] at hq
            have hXe : X = ys ++ wirB (x + 8000000) := by rw [← HX.out]; exact if_pos hin
            have hNe : N = p + 3 := by rw [← HN.out, hXe, List.length_append, hpl]; rfl
            obtain ⟨hin1, hin2⟩ := hin
            have d1 : decide (x < -8000000) = false := by simp; omega
            have d2 : decide (8000000 < x) = false := by simp; omega
            subst hNe
            have hti := implWirTake a5 (p + 3) c5 X p w19 (owns_rd O5.out) HXB.out (by omega)
            rw [hq] at hti
            have TI := Lib.hid hti; clear hti hq
            have hcap := owns_cap O5.out
            unfold maxLen at hcap
            obtain ⟨hcap1, hcap2⟩ := hcap
            have HPL := Lib.hid hpl; clear hpl
            have HXE := Lib.hid hXe; clear hXe
            go_wp2_with fail
            refine TI.out.mono ?_
            rintro e w9 ⟨rfl, q9, e9⟩
            have b9 : Grew w19 w9 := by rw [e9]; exact grew_drewN _ _
            clear e9 TI
            have O1 := Lib.hid (owns_grew O1.out b9)
            have O5 := Lib.hid (owns_grew O5.out b9)
            have B9 := Lib.hid (BW.out.trans (b9.mono BW.out.size)); clear b9
            obtain ⟨b5, off5, rfl⟩ : ∃ b off, a5 = some ⟨b, off, none⟩ := by
              obtain ⟨b, off, _, e, _⟩ := (owns_rd O5.out).at1 (i := 0) (by omega)
              exact ⟨b, off, e⟩
            have hsub := (owns_rd O5.out).sub 0 p (by omega)
            simp only [Nat.add_zero, List.drop_zero] at hsub
            have htk : X.take p = ys := by rw [HXE.out, ← HPL.out]; exact List.take_left
            rw [htk] at hsub
            have SB := Lib.hid hsub; clear hsub htk
            go_wp2_with fail
            refine (owBytes _ _ _ _ _ _ _ _ _ SB.out (owns_rd O1.out) (by omega) (by omega)).mono ?_
            rintro e w10 ⟨rfl, q10, e10⟩
            have b10 : Grew w9 w10 := by rw [e10]; exact grew_drewN _ _
            clear e10
            have B10 := Lib.hid (B9.out.trans (b10.mono B9.out.size)); clear b10
            go_wp2
            go_ret
            exact ⟨rfl, B10.out⟩
          · have hXe : X = ys := by rw [← HX.out]; exact if_neg hin
            have hpl := (owns_rd O1.out).len1
            have hNe : N = p := by rw [← HN.out, hXe, hpl]
            subst hNe
            subst hXe
            clear hpl
            by_cases hlo : x < -8000000
            · have d1 : decide (x < -8000000) = true := by simpa using hlo
              clear hin
              go_wp2_with fail
              refine (owBytes _ _ _ _ _ _ _ _ _ (owns_rd O5.out) (owns_rd O1.out) (by omega) (by omega)).mono ?_
              rintro e w10 ⟨rfl, q10, e10⟩
              have b10 : Grew w19 w10 := by rw [e10]; exact grew_drewN _ _
              clear e10
              have B10 := Lib.hid (BW.out.trans (b10.mono BW.out.size)); clear b10
              go_wp2_with fail
              refine (owOk _).mono ?_
              rintro e w' ⟨rfl, rfl⟩
              go_wp2
              go_ret
              exact ⟨rfl, B10.out⟩
            · have d1 : decide (x < -8000000) = false := by simpa using hlo
              have d2 : decide (8000000 < x) = true := by simp; omega
              clear hin
              go_wp2_with fail
              refine (owBytes _ _ _ _ _ _ _ _ _ (owns_rd O5.out) (owns_rd O1.out) (by omega) (by omega)).mono ?_
              rintro e w10 ⟨rfl, q10, e10⟩
              have b10 : Grew w19 w10 := by rw [e10]; exact grew_drewN _ _
              clear e10
              have B10 := Lib.hid (BW.out.trans (b10.mono BW.out.size)); clear b10
              go_wp2_with fail
              refine (owOk _).mono ?_
              rintro e w' ⟨rfl, rfl⟩
              go_wp2
              go_ret
              exact ⟨rfl, B10.out⟩
end Go.Proofs.Ytpnjkjpdfkkdkaa
