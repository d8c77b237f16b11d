/- The walk of the law on frames that are taken. No condition. -/
import Derived.Test.YtpnjkjpdfkkdkaaFrmLaw
namespace Go.Proofs.Ytpnjkjpdfkkdkaa
open Go.RowKit
set_option linter.unusedVariables false

set_option maxHeartbeats 4000000 in
theorem lawFnFrmTake (a : Option Addr) (n cap : Nat) (zs : List Int) (a' : Option Addr) (n' cap' : Nat) (zs' : List Int) (w : World) (hr : Rd w a n 1 (ints .u8 zs)) (hz : Bs zs) (hc : n ≤ cap ∧ cap ≤ maxLen)
    (hr' : Rd w a' n' 1 (ints .u8 zs')) (hz' : Bs zs') (hc' : n' ≤ cap' ∧ cap' ≤ maxLen) :
    Calls Try.prog 11 #[.slice a n cap, .slice a' n' cap'] w fun e w' => e = .returned (.bool true) ∧ Grew w w' := by
  have HR := Lib.hid hr; clear hr
  have HZ := Lib.hid hz; clear hz
  have HR' := Lib.hid hr'; clear hr'
  have HZ' := Lib.hid hz'; clear hz'
  have HC := Lib.hid hc
  have HC' := Lib.hid hc'
  obtain ⟨hc1, hc2⟩ := hc
  obtain ⟨hc3, hc4⟩ := hc'
  unfold maxLen at hc2 hc4
  by_cases hbig : 1048576 < n
  · have hb : decide ((1048576 : Int) < (n : Int)) = true := by simp; omega
    go_enter Try.func11, Try.ntmps11
    go_wp2
    go_ret
    exact ⟨rfl, Below.refl _ _⟩
  · have hb : decide ((1048576 : Int) < (n : Int)) = false := by simp; omega
    by_cases hbig' : 1048576 < n'
    · have hb' : (1048576 : Int) < (n' : Int) := by omega
      clear hbig
      go_enter Try.func11, Try.ntmps11
      go_wp2
      go_ret
      exact ⟨rfl, Below.refl _ _⟩
    · have hb' : ¬ (1048576 : Int) < (n' : Int) := by omega
      clear hbig hbig' hc1 hc2 hc3 hc4
      obtain ⟨w0, rfl⟩ : ∃ w0, w0 = w := ⟨_, rfl⟩
      go_enter Try.func11, Try.ntmps11
      go_wp2_with fail
      refine (DrawFrmPut _ _ _ _ _ HR.out HZ.out HC.out).mono ?_
      rintro e w1 ⟨v1, p, bs, rfl, hbs, hp, o1, b1⟩
      obtain ⟨a1, c1, rfl⟩ := owns_slice o1
      have HB := Lib.hid hbs; clear hbs
      have O1 := Lib.hid o1; clear o1
      have B1 := Lib.hid b1; clear b1
      go_wp2_with fail
      refine (DrawFrmTake _ _ _ _ _ (HR'.out.grew B1.out) HZ'.out HC'.out).mono ?_
      rintro e w2 ⟨v2, m, ys, rfl, hys, hm, o2, b2⟩
      obtain ⟨a2, c2, rfl⟩ := owns_slice o2
      have HY := Lib.hid hys; clear hys
      have O1 := Lib.hid (owns_grew O1.out b2)
      have O2 := Lib.hid o2; clear o2
      have B2 := Lib.hid (B1.out.trans (b2.mono B1.out.size)); clear B1 b2
      have HCC := Lib.hid (owns_cap O2.out)
      obtain ⟨F, hF⟩ : ∃ F, frmPut bs = F := ⟨_, rfl⟩
      obtain ⟨N, hN⟩ : ∃ N, F.length = N := ⟨_, rfl⟩
      have hNb : N ≤ 2004 := by rw [← hN, ← hF]; exact frmPut_len bs
      have HF := Lib.hid hF; clear hF
      have HN := Lib.hid hN; clear hN
      obtain ⟨X, hX⟩ : ∃ X, (frmTake ys).1 = X := ⟨_, rfl⟩
      obtain ⟨L, hL⟩ : ∃ L, X.length = L := ⟨_, rfl⟩
      obtain ⟨M, hM⟩ : ∃ M, (frmTake ys).2.1 = M := ⟨_, rfl⟩
      obtain ⟨K, hK⟩ : ∃ K, (frmTake ys).2.2 = K := ⟨_, rfl⟩
      have hLb : L ≤ 2030 := by
        rw [← hL, ← hX]
        have := (owns_rd O2.out).len1
        unfold frmTake
        split
        · simp; omega
        · simp
      have HX := Lib.hid hX; clear hX
      have HL := Lib.hid hL; clear hL
      have HM := Lib.hid hM; clear hM
      have HK := Lib.hid hK; clear hK
      have hcall := implFrmPut a1 p c1 bs w2 (owns_rd O1.out) HB.out (by omega)
      rw [HF.out, HN.out] at hcall
      have CALL := Lib.hid hcall; clear hcall
      go_wp2_with fail
      refine CALL.out.mono ?_
      rintro e w3 ⟨v3, rfl, o3, b3⟩
      obtain ⟨a3, c3, rfl⟩ := owns_slice o3
      clear CALL
      have O1 := Lib.hid (owns_grew O1.out b3)
      have O2 := Lib.hid (owns_grew O2.out b3)
      have O3 := Lib.hid o3; clear o3
      have B3 := Lib.hid (B2.out.trans (b3.mono B2.out.size)); clear B2 b3
      have hcall := implFrmTake a2 m c2 ys w3 (owns_rd O2.out) HY.out (by omega) HCC.out.1 HCC.out.2
      rw [HX.out, HL.out, HM.out, HK.out] at hcall
      have CALL := Lib.hid hcall; clear hcall
      go_wp2_with fail
      refine CALL.out.mono ?_
      rintro e w4 ⟨v4, rfl, o4, b4⟩
      obtain ⟨a4, c4, rfl⟩ := owns_slice o4
      clear CALL
      have O1 := Lib.hid (owns_grew O1.out b4)
      have O2 := Lib.hid (owns_grew O2.out b4)
      have O3 := Lib.hid (owns_grew O3.out b4)
      have O4 := Lib.hid o4; clear o4
      have B4 := Lib.hid (B3.out.trans (b4.mono B3.out.size)); clear B3 b4
      have hcall := specFrmTake a2 m c2 ys w4 (owns_rd O2.out) HY.out (by omega) HCC.out.1 HCC.out.2
      rw [HX.out, HL.out, HM.out, HK.out] at hcall
      have CALL := Lib.hid hcall; clear hcall
      go_wp2_with fail
      refine CALL.out.mono ?_
      rintro e w5 ⟨v5, rfl, o5, b5⟩
      obtain ⟨a5, c5, rfl⟩ := owns_slice o5
      clear CALL
      have O1 := Lib.hid (owns_grew O1.out b5)
      have O2 := Lib.hid (owns_grew O2.out b5)
      have O3 := Lib.hid (owns_grew O3.out b5)
      have O4 := Lib.hid (owns_grew O4.out b5)
      have O5 := Lib.hid o5; clear o5
      have B5 := Lib.hid (B4.out.trans (b5.mono B4.out.size)); clear B4 b5
      have hcall := specFrmPut a1 p c1 bs w5 (owns_rd O1.out) HB.out (by omega)
      rw [HF.out, HN.out] at hcall
      have CALL := Lib.hid hcall; clear hcall
      go_wp2_with fail
      refine CALL.out.mono ?_
      rintro e w6 ⟨v6, rfl, o6, b6⟩
      obtain ⟨a6, c6, rfl⟩ := owns_slice o6
      clear CALL
      have O1 := Lib.hid (owns_grew O1.out b6)
      have O2 := Lib.hid (owns_grew O2.out b6)
      have O3 := Lib.hid (owns_grew O3.out b6)
      have O4 := Lib.hid (owns_grew O4.out b6)
      have O5 := Lib.hid (owns_grew O5.out b6)
      have O6 := Lib.hid o6; clear o6
      have B6 := Lib.hid (B5.out.trans (b6.mono B5.out.size)); clear B5 b6
      go_wp2_with fail
      refine (owBytes _ _ _ _ _ _ _ _ _ (owns_rd O3.out) (owns_rd O6.out) (by omega) (by omega)).mono ?_
      rintro e w7 ⟨rfl, q7, e7⟩
      have b7 : Grew w6 w7 := by rw [e7]; exact grew_drewN _ _
      clear e7 O6
      have O1 := Lib.hid (owns_grew O1.out b7)
      have O2 := Lib.hid (owns_grew O2.out b7)
      have O3 := Lib.hid (owns_grew O3.out b7)
      have O4 := Lib.hid (owns_grew O4.out b7)
      have O5 := Lib.hid (owns_grew O5.out b7)
      have B7 := Lib.hid (B6.out.trans (b7.mono B6.out.size)); clear B6 b7
      go_wp2_with fail
      refine (owBytes _ _ _ _ _ _ _ _ _ (owns_rd O4.out) (owns_rd O5.out) (by omega) (by omega)).mono ?_
      rintro e w8 ⟨rfl, q8, e8⟩
      have b8 : Grew w7 w8 := by rw [e8]; exact grew_drewN _ _
      clear e8 O5
      have O1 := Lib.hid (owns_grew O1.out b8)
      have O2 := Lib.hid (owns_grew O2.out b8)
      have O3 := Lib.hid (owns_grew O3.out b8)
      have O4 := Lib.hid (owns_grew O4.out b8)
      have B8 := Lib.hid (B7.out.trans (b8.mono B7.out.size)); clear B7 b8
      cases K
      · go_wp2_with fail
        go_quiet (fail)
        have b9 : Grew w8 (w8.drewN nq) := grew_drewN _ _
        have O1 := Lib.hid (owns_grew O1.out b9)
        have O2 := Lib.hid (owns_grew O2.out b9)
        have O3 := Lib.hid (owns_grew O3.out b9)
        have BW := Lib.hid (B8.out.trans (b9.mono B8.out.size)); clear B8 b9 O4
        obtain ⟨w19, hw9⟩ : ∃ w9, w9 = w8.drewN nq := ⟨_, rfl⟩
        rw [← hw9] at O1 O2 O3 BW ⊢
        clear hw9
        by_cases hin : 2000 < p
        · have hf0 : F = [] := by rw [← HF.out]; exact if_pos (by have := (owns_rd O1.out).len1; omega)
          obtain rfl : N = 0 := by rw [← HN.out, hf0]; rfl
          have d1 : (2000 : Int) < (p : Int) := by omega
          clear hf0 hin
          go_wp2_with fail
          refine (owOk _).mono ?_
          rintro e w' ⟨rfl, rfl⟩
          go_wp2
          go_ret
          exact ⟨rfl, BW.out⟩
        · have d1 : ¬ (2000 : Int) < (p : Int) := by omega
          have hpl := (owns_rd O1.out).len1
          have hNe : N = p + 4 := by
            rw [← HN.out, ← HF.out, show frmPut bs = (twoB bs.length ++ bs) ++ twoB (sumI (twoB bs.length ++ bs)) from if_neg (by omega)]
            simp [twoB, hpl]
          subst hNe
          have hq := frmTake_put HB.out (by omega) ys
          rw [HF.out, hpl] at hq
          have HQ := Lib.hid hq; clear hq
          have HPL := Lib.hid hpl; clear hpl
          obtain ⟨v7, w7', hrun7, o7, g7, -⟩ := owns_append (P := Try.prog) (w19.alloc (.cells #[] 5)) byteEl (World.ownsRow_lit w19 #[] 0 (base := w19.heap.size) (Nat.le_refl _) (Nat.zero_le _) rfl) a3 (p + 4) c3 _
            ((owns_rd O3.out).grew ((Below.refl _ _).alloc (Nat.le_refl _) (.cells #[] 5))) (ints_one _ _) (by omega) (by omega) (by simp)
          simp only [Nat.zero_add, List.nil_append] at o7
          have b7 : Grew w19 w7' := ((Below.refl _ _).alloc (Nat.le_refl _) _).grown g7 (by simp) (fun j hj => by simp [Value.ownBlock] at hj; omega)
          obtain ⟨v8, w8', hrun8, o8, g8, -⟩ := owns_append (P := Try.prog) w7' byteEl o7 a2 m c2 _ ((owns_rd O2.out).grew b7) (ints_one _ _) (by omega) (by omega) b7.size
          have b8 : Grew w19 w8' := b7.grown g8 b7.size (fun j hj => (o7.lt j hj).1)
          rw [← ints_append] at o8
          obtain ⟨a8, c8, rfl⟩ := owns_slice o8
          have R7 := Lib.hid hrun7; clear hrun7
          have R8 := Lib.hid hrun8; clear hrun8
          have O1' := Lib.hid (owns_grew O1.out b8)
          have O8 := Lib.hid o8; clear o8 o7 g7 g8
          have B8 := Lib.hid (BW.out.trans (b8.mono BW.out.size)); clear b8 b7
          have hbs8 : Bs (F ++ ys) := bs_app (by rw [← HF.out]; exact bs_frmPut HB.out) HY.out
          have hcall := implFrmTake a8 (p + 4 + m) c8 (F ++ ys) w8' (owns_rd O8.out) hbs8 (by omega) (owns_cap O8.out).1 (owns_cap O8.out).2
          rw [HQ.out] at hcall
          simp only [] at hcall
          rw [HPL.out] at hcall
          have CALL := Lib.hid hcall; clear hcall hbs8
          go_wp2_with (first | (at_builtin; refine wpList_append_run rfl _ _ rfl rfl rfl rfl R7.out ?_) | (at_builtin; refine wpList_append_run rfl _ _ rfl rfl rfl rfl R8.out ?_))
          refine CALL.out.mono ?_
          rintro e w9 ⟨v9, rfl, o9, b9⟩
          obtain ⟨a9, c9, rfl⟩ := owns_slice o9
          have O1 := Lib.hid (owns_grew O1'.out b9)
          have O9 := Lib.hid o9; clear o9
          have B9 := Lib.hid (B8.out.trans (b9.mono B8.out.size)); clear b9
          go_wp2_with fail
          refine (owBytes _ _ _ _ _ _ _ _ _ (owns_rd O9.out) (owns_rd O1.out) (by omega) (by omega)).mono ?_
          rintro e w10 ⟨rfl, q10, e10⟩
          have b10 : Grew w9 w10 := by rw [e10]; exact grew_drewN _ _
          clear e10
          have B10 := Lib.hid (B9.out.trans (b10.mono B9.out.size)); clear b10
          go_wp2
          go_ret
          exact ⟨rfl, B10.out⟩
      · have hok : frmTake ys = (X, M, true) := by rw [← HX.out, ← HM.out, ← HK.out]
        obtain ⟨k, hMk, hkm, hkL, hL2, hxb, hput⟩ := frmTake_yes HY.out hok
        subst hMk
        rw [(owns_rd O2.out).len1] at hkm
        rw [HL.out] at hkL hL2
        have hkb : k ≤ 2004 := by omega
        have hkb4 : 4 ≤ k := by omega
        clear hkL hL2
        obtain ⟨b2, off2, rfl⟩ : ∃ b off, a2 = some ⟨b, off, none⟩ := by
          obtain ⟨b, off, _, e, _⟩ := (owns_rd O2.out).at1 (i := 0) (by omega)
          exact ⟨b, off, e⟩
        have hsub := (owns_rd O2.out).sub 0 k (by omega)
        simp only [Nat.add_zero, List.drop_zero] at hsub
        have SU := Lib.hid hsub; clear hsub
        have hput3 : (frmPut X).length = k := by rw [hput, List.length_take, (owns_rd O2.out).len1]; omega
        have HP := Lib.hid hput; clear hput hok
        have HP3 := Lib.hid hput3; clear hput3
        have HXB := Lib.hid hxb; clear hxb
        have hcapk := HCC.out.1
        have hk5 : (0 : Int) ≤ (k : Int) := by omega
        have hk7 : (k : Int) ≤ (c2 : Int) := by omega
        have hk9 : k ≤ c2 := by omega
        go_wp2_with fail
        go_region_held3 (fun _ => True) (first | trivial | trivial) (first
          | (go_at_call 23; refine (implFrmPut a4 L c4 X _ ((owns_rd O4.out).grew (grew_drewN _ 1)) HXB.out (by omega)).mono ?_; rintro e w9 ⟨v9, rfl, o9, b9⟩; rw [HP3.out, HP.out] at o9; obtain ⟨a9, c9, rfl⟩ := owns_slice o9; have b9' : Grew w8 w9 := (grew_drewN w8 1).trans (b9.mono (Nat.le_refl _)); have O9 := Lib.hid o9; have B9 := Lib.hid b9'; clear o9 b9 b9')
          | (go_at_call 33; refine (owBytes _ _ _ _ _ _ _ _ _ (owns_rd O9.out) (SU.out.grew B9.out) (by omega) (by omega)).mono ?_; rintro e w19 ⟨rfl, q19, e19⟩; have b19 : Grew w9 w19 := (by rw [e19]; exact grew_drewN _ _); clear e19))
        all_goals
          have O1 := Lib.hid (owns_grew (owns_grew O1.out B9.out) b19)
          have O2 := Lib.hid (owns_grew (owns_grew O2.out B9.out) b19)
          have O3 := Lib.hid (owns_grew (owns_grew O3.out B9.out) b19)
          have BW := Lib.hid (B8.out.trans ((B9.out.trans (b19.mono B9.out.size)).mono B8.out.size)); clear B8 B9 b19 O4 O9
          by_cases hin : 2000 < p
          · have hf0 : F = [] := by rw [← HF.out]; exact if_pos (by have := (owns_rd O1.out).len1; omega)
            obtain rfl : N = 0 := by rw [← HN.out, hf0]; rfl
            have d1 : (2000 : Int) < (p : Int) := by omega
            clear hf0 hin
            go_wp2_with fail
            refine (owOk _).mono ?_
            rintro e w' ⟨rfl, rfl⟩
            go_wp2
            go_ret
            exact ⟨rfl, BW.out⟩
          · have d1 : ¬ (2000 : Int) < (p : Int) := by omega
            have hpl := (owns_rd O1.out).len1
            have hNe : N = p + 4 := by
              rw [← HN.out, ← HF.out, show frmPut bs = (twoB bs.length ++ bs) ++ twoB (sumI (twoB bs.length ++ bs)) from if_neg (by omega)]
              simp [twoB, hpl]
            subst hNe
            have hq := frmTake_put HB.out (by omega) ys
            rw [HF.out, hpl] at hq
            have HQ := Lib.hid hq; clear hq
            have HPL := Lib.hid hpl; clear hpl
            obtain ⟨v7, w7', hrun7, o7, g7, -⟩ := owns_append (P := Try.prog) (w19.alloc (.cells #[] 5)) byteEl (World.ownsRow_lit w19 #[] 0 (base := w19.heap.size) (Nat.le_refl _) (Nat.zero_le _) rfl) a3 (p + 4) c3 _
              ((owns_rd O3.out).grew ((Below.refl _ _).alloc (Nat.le_refl _) (.cells #[] 5))) (ints_one _ _) (by omega) (by omega) (by simp)
            simp only [Nat.zero_add, List.nil_append] at o7
            have b7 : Grew w19 w7' := ((Below.refl _ _).alloc (Nat.le_refl _) _).grown g7 (by simp) (fun j hj => by simp [Value.ownBlock] at hj; omega)
            obtain ⟨v8, w8', hrun8, o8, g8, -⟩ := owns_append (P := Try.prog) w7' byteEl o7 (some ⟨b2, off2, none⟩) m c2 _ ((owns_rd O2.out).grew b7) (ints_one _ _) (by omega) (by omega) b7.size
            have b8 : Grew w19 w8' := b7.grown g8 b7.size (fun j hj => (o7.lt j hj).1)
            rw [← ints_append] at o8
            obtain ⟨a8, c8, rfl⟩ := owns_slice o8
            have R7 := Lib.hid hrun7; clear hrun7
            have R8 := Lib.hid hrun8; clear hrun8
            have O1' := Lib.hid (owns_grew O1.out b8)
            have O8 := Lib.hid o8; clear o8 o7 g7 g8
            have B8 := Lib.hid (BW.out.trans (b8.mono BW.out.size)); clear b8 b7
            have hbs8 : Bs (F ++ ys) := bs_app (by rw [← HF.out]; exact bs_frmPut HB.out) HY.out
            have hcall := implFrmTake a8 (p + 4 + m) c8 (F ++ ys) w8' (owns_rd O8.out) hbs8 (by omega) (owns_cap O8.out).1 (owns_cap O8.out).2
            rw [HQ.out] at hcall
            simp only [] at hcall
            rw [HPL.out] at hcall
            have CALL := Lib.hid hcall; clear hcall hbs8
            go_wp2_with (first | (at_builtin; refine wpList_append_run rfl _ _ rfl rfl rfl rfl R7.out ?_) | (at_builtin; refine wpList_append_run rfl _ _ rfl rfl rfl rfl R8.out ?_))
            refine CALL.out.mono ?_
            rintro e w9 ⟨v9, rfl, o9, b9⟩
            obtain ⟨a9, c9, rfl⟩ := owns_slice o9
            have O1 := Lib.hid (owns_grew O1'.out b9)
            have O9 := Lib.hid o9; clear o9
            have B9 := Lib.hid (B8.out.trans (b9.mono B8.out.size)); clear b9
            go_wp2_with fail
            refine (owBytes _ _ _ _ _ _ _ _ _ (owns_rd O9.out) (owns_rd O1.out) (by omega) (by omega)).mono ?_
            rintro e w10 ⟨rfl, q10, e10⟩
            have b10 : Grew w9 w10 := by rw [e10]; exact grew_drewN _ _
            clear e10
            have B10 := Lib.hid (B9.out.trans (b10.mono B9.out.size)); clear b10
            go_wp2
            go_ret
            exact ⟨rfl, B10.out⟩
end Go.Proofs.Ytpnjkjpdfkkdkaa
