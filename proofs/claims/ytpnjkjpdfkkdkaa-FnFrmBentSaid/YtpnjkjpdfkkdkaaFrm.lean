/- FrmTake, of the program and of the reference. No condition. -/
import Derived.Test.YtpnjkjpdfkkdkaaWire
import Derived.Outline
namespace Go.Proofs.Ytpnjkjpdfkkdkaa
open Go.RowKit
set_option linter.unusedVariables false

/-- What FrmTake returns. -/
def frmLong (zs : List Int) : Nat := (zs.getD 0 0 * 256 + zs.getD 1 0).toNat
def frmGood (zs : List Int) : Bool :=
  decide (4 ≤ zs.length) && decide (frmLong zs ≤ 2000) && decide (frmLong zs + 4 ≤ zs.length) &&
    decide (zs.getD (frmLong zs + 2) 0 * 256 + zs.getD (frmLong zs + 3) 0 = sumI (zs.take (frmLong zs + 2)))
def frmTake (zs : List Int) : List Int × Int × Bool :=
  if frmGood zs = true then ((zs.drop 2).take (frmLong zs), (frmLong zs : Int) + 4, true) else ([], 0, false)

theorem implFrmTake (a : Option Addr) (n cap : Nat) (zs : List Int) (w : World) (hr : Rd w a n 1 (ints .u8 zs)) (hz : Bs zs) (hn : n ≤ 1099511627776) (hcap : n ≤ cap) (hmc : cap ≤ maxLen) :
    Calls Try.prog 28 #[.slice a n cap] w fun e w' => ∃ v, e = .returned (.tuple #[v, .int .i64 (frmTake zs).2.1, .bool (frmTake zs).2.2]) ∧
      w'.ownsRow w.heap.size 5 1 v (frmTake zs).1.length (ints .u8 (frmTake zs).1) ∧ Grew w w' := by
  have hl := hr.len1
  by_cases h4 : n < 4
  · have hf : frmTake zs = ([], 0, false) := by
      unfold frmTake
      rw [if_neg]
      simp only [frmGood, Bool.and_eq_true, decide_eq_true_eq]
      omega
    rw [hf]
    clear hf hl hr
    go_enter Try.func28, Try.ntmps28
    go_wp2
    go_ret3
    exact ⟨_, rfl, World.ownsRow_nil _ _ _ _, Below.refl _ _⟩
  · have h4' : 4 ≤ n := by omega
    obtain ⟨b, off, x0, rfl, hx0, hc0⟩ := hr.at1 (i := 0) (by omega)
    have hfl : zs.getD 0 0 * 256 + zs.getD 1 0 = (frmLong zs : Int) := by
      have h1 := hz 0 _ hx0
      obtain ⟨_, _, y, _, hy, _⟩ := hr.at1 (i := 1) (by omega)
      have h2 := hz 1 _ hy
      unfold frmLong
      rw [List.getD_eq_getElem?_getD, List.getD_eq_getElem?_getD, hx0, hy]
      simp only [Option.getD_some]
      omega
    have HF := Lib.hid hfl; clear hfl hx0 hc0
    unfold maxLen at hmc
    by_cases hbig : 2000 < frmLong zs
    · have hf : frmTake zs = ([], 0, false) := by
        unfold frmTake
        rw [if_neg]
        simp only [frmGood, Bool.and_eq_true, decide_eq_true_eq]
        omega
      rw [hf]
      have d1 : decide (2000 < (frmLong zs : Int)) = true := by simp; omega
      have HR := Lib.hid hr; clear hr
      have HZ := Lib.hid hz; clear hz
      clear hf hl
      generalize frmLong zs = k at *
      go_enter Try.func28, Try.ntmps28
      go_wp2_with fail
      refine (fromTwo _ _ _ _ _ HR.out HZ.out (by omega)).mono ?_
      rintro e w1 ⟨rfl, q, hw⟩
      have B1 : Hid (Grew w w1) := by rw [hw]; exact grew_drewN _ _
      clear hw
      rw [HF.out]
      go_wp2_with fail
      go_quiet (fail)
      go_wp2
      go_ret3
      exact ⟨_, rfl, World.ownsRow_nil _ _ _ _, B1.out.trans (below_drewN (Below.refl _ _) nq)⟩
    · by_cases hlong : n < frmLong zs + 4
      · have hf : frmTake zs = ([], 0, false) := by
          unfold frmTake
          rw [if_neg]
          simp only [frmGood, Bool.and_eq_true, decide_eq_true_eq]
          omega
        rw [hf]
        have d1 : decide (2000 < (frmLong zs : Int)) = false := by simp; omega
        have d2 : decide ((n : Int) < (frmLong zs : Int) + 4) = true := by simp; omega
        have HR := Lib.hid hr; clear hr
        have HZ := Lib.hid hz; clear hz
        clear hf hl
        generalize frmLong zs = k at *
        have hw1 : IntKind.i64.wrap ((k : Int) + 4) = (k : Int) + 4 := IntWalk.i64_in _ (by omega)
        go_enter Try.func28, Try.ntmps28
        go_wp2_with fail
        refine (fromTwo _ _ _ _ _ HR.out HZ.out (by omega)).mono ?_
        rintro e w1 ⟨rfl, q, hw⟩
        have B1 : Hid (Grew w w1) := by rw [hw]; exact grew_drewN _ _
        clear hw
        rw [HF.out]
        go_wp2_with fail
        go_quiet (fail)
        go_wp2
        go_ret3
        exact ⟨_, rfl, World.ownsRow_nil _ _ _ _, B1.out.trans (below_drewN (Below.refl _ _) nq)⟩
      · generalize hk : frmLong zs = k at *
        have HK := Lib.hid hk; clear hk
        have d1 : decide (2000 < (k : Int)) = false := by simp; omega
        have d2 : decide ((n : Int) < (k : Int) + 4) = false := by simp; omega
        obtain ⟨X, hX⟩ : ∃ X, zs.getD (2 + k) 0 * 256 + zs.getD (3 + k) 0 = X := ⟨_, rfl⟩
        obtain ⟨S, hS⟩ : ∃ S, sumI (zs.take (2 + k)) = S := ⟨_, rfl⟩
        have hgood : frmGood zs = decide (X = S) := by
          simp only [frmGood, HK.out, hl]
          rw [decide_eq_true h4', decide_eq_true (show k ≤ 2000 by omega), decide_eq_true (show k + 4 ≤ n by omega), Nat.add_comm k 2, Nat.add_comm k 3, hX, hS]
          rfl
        have HX := Lib.hid hX; clear hX
        have HS := Lib.hid hS; clear hS
        have HR := Lib.hid hr; clear hr
        have HZ := Lib.hid hz; clear hz
        have HL := Lib.hid hl; clear hl
        have W1 : Hid (∀ w1, Grew w w1 → (∀ m, Calls Try.prog 14 #[.slice (some ⟨b, off, none⟩) (2 + k) cap] (w1.drewN m) fun e w' => e = .returned (.int .i64 S) ∧ w1.drewN m = w') ∧
            ∀ m, Calls Try.prog 42 #[.slice (some ⟨b, off + (2 + k), none⟩) (n - (2 + k)) (cap - (2 + k))] (w1.drewN m) fun e w' => e = .returned (.int .i64 X) ∧ ∃ q, w' = (w1.drewN m).drewN q) := by
          intro w1 hb1
          have hr1 := HR.out.grew hb1
          refine ⟨fun m => ?_, fun m => ?_⟩
          · have h := implFrmSum (some ⟨b, off, none⟩) (2 + k) cap (zs.take (2 + k)) (w1.drewN m) (by have := (hr1.drewN m).sub 0 (2 + k) (by omega); simpa using this) (bs_take HZ.out _) (by omega)
            rwa [HS.out] at h
          · have h := fromTwo (some ⟨b, off + (2 + k), none⟩) (n - (2 + k)) (cap - (2 + k)) _ _ ((hr1.drewN m).sub (2 + k) (n - (2 + k)) (by omega)) (bs_take (bs_drop HZ.out _) _) (by omega)
            have e1 : (List.take (n - (2 + k)) (List.drop (2 + k) zs)).getD 0 0 = zs.getD (2 + k) 0 := by
              simp only [List.getD_eq_getElem?_getD, List.getElem?_take, List.getElem?_drop]; rw [if_pos (by omega)]; rfl
            have e2 : (List.take (n - (2 + k)) (List.drop (2 + k) zs)).getD 1 0 = zs.getD (3 + k) 0 := by
              simp only [List.getD_eq_getElem?_getD, List.getElem?_take, List.getElem?_drop]; rw [if_pos (by omega), show 2 + k + 1 = 3 + k from by omega]
            rwa [e1, e2, HX.out] at h
        have hw1 : IntKind.i64.wrap ((k : Int) + 4) = (k : Int) + 4 := IntWalk.i64_in _ (by omega)
        have hw2 : IntKind.i64.wrap (2 + (k : Int)) = 2 + (k : Int) := IntWalk.i64_in _ (by omega)
        by_cases hsum : X = S
        · have hx : (X != S) = false := by simpa using hsum
          have hf : frmTake zs = ((zs.drop 2).take k, (k : Int) + 4, true) := by
            unfold frmTake
            rw [if_pos (by rw [hgood]; exact decide_eq_true hsum), HK.out]
          rw [hf]
          have hlen : ((zs.drop 2).take k).length = k := by have := HL.out; simp; omega
          rw [hlen]
          clear hsum hgood hf hlen
          go_enter Try.func28, Try.ntmps28
          go_wp2_with fail
          refine (fromTwo _ _ _ _ _ HR.out HZ.out (by omega)).mono ?_
          rintro e w1 ⟨rfl, q, hw⟩
          have hb1 : Grew w w1 := by rw [hw]; exact grew_drewN _ _
          clear hw
          obtain ⟨S1, S2⟩ := W1.out w1 hb1
          have S1 := Lib.hid S1
          have S2 := Lib.hid S2
          have B1 := Lib.hid hb1; clear hb1
          rw [HF.out]
          go_wp2_with fail
          go_quiet ((first | (go_at_call 42; exact Calls.quiet_of (S2.out _)) | (go_at_call 14; exact quiet_left (S1.out _))))
          clear S1 S2
          have hr2 := ((HR.out.grew B1.out).drewN nq).sub 2 k (by omega)
          have HR2 := Lib.hid hr2; clear hr2
          have B2 : Hid (Grew w (w1.drewN nq)) := Lib.hid (B1.out.trans (below_drewN (Below.refl _ _) nq))
          go_wp2_with fail
          refine (copyBytes _ _ _ _ _ HR2.out (by omega)).mono ?_
          rintro e w2 ⟨v2, rfl, o2, b2⟩
          have O2 := Lib.hid (owns_mono o2 B2.out.size); clear o2
          have B3 := Lib.hid (B2.out.trans (b2.mono B2.out.size)); clear b2
          go_wp2
          go_ret3
          exact ⟨_, rfl, O2.out, B3.out⟩
        · have hx : (X != S) = true := by simpa using hsum
          have hf : frmTake zs = ([], 0, false) := by
            unfold frmTake
            rw [if_neg (by rw [hgood]; simpa using hsum)]
          rw [hf]
          clear hsum hgood hf
          go_enter Try.func28, Try.ntmps28
          go_wp2_with fail
          refine (fromTwo _ _ _ _ _ HR.out HZ.out (by omega)).mono ?_
          rintro e w1 ⟨rfl, q, hw⟩
          have hb1 : Grew w w1 := by rw [hw]; exact grew_drewN _ _
          clear hw
          obtain ⟨S1, S2⟩ := W1.out w1 hb1
          have S1 := Lib.hid S1
          have S2 := Lib.hid S2
          have B1 := Lib.hid hb1; clear hb1
          rw [HF.out]
          go_wp2_with fail
          go_quiet ((first | (go_at_call 42; exact Calls.quiet_of (S2.out _)) | (go_at_call 14; exact quiet_left (S1.out _))))
          clear S1 S2
          go_wp2
          go_ret3
          exact ⟨_, rfl, World.ownsRow_nil _ _ _ _, B1.out.trans (below_drewN (Below.refl _ _) nq)⟩

theorem specFrmTake (a : Option Addr) (n cap : Nat) (zs : List Int) (w : World) (hr : Rd w a n 1 (ints .u8 zs)) (hz : Bs zs) (hn : n ≤ 1099511627776) (hcap : n ≤ cap) (hmc : cap ≤ maxLen) :
    Calls Try.prog 27 #[.slice a n cap] w fun e w' => ∃ v, e = .returned (.tuple #[v, .int .i64 (frmTake zs).2.1, .bool (frmTake zs).2.2]) ∧
      w'.ownsRow w.heap.size 5 1 v (frmTake zs).1.length (ints .u8 (frmTake zs).1) ∧ Grew w w' := by
  have hl := hr.len1
  by_cases h4 : n < 4
  · have hf : frmTake zs = ([], 0, false) := by
      unfold frmTake
      rw [if_neg]
      simp only [frmGood, Bool.and_eq_true, decide_eq_true_eq]
      omega
    rw [hf]
    clear hf hl hr
    go_enter Try.func27, Try.ntmps27
    go_wp2
    go_ret3
    exact ⟨_, rfl, World.ownsRow_lit w #[] 0 (Nat.le_refl _) (Nat.zero_le _) rfl, (Below.refl _ _).alloc (Nat.le_refl _) _⟩
  · have h4' : 4 ≤ n := by omega
    obtain ⟨b, off, x0, rfl, hx0, hc0⟩ := hr.at1 (i := 0) (by omega)
    obtain ⟨b', off', x1, e, hx1, hc1⟩ := hr.at1 (i := 1) (by omega)
    simp only [Option.some.injEq, Addr.mk.injEq, and_true] at e
    obtain ⟨rfl, rfl⟩ := e
    have hb0 := hz 0 _ hx0
    have hb1 := hz 1 _ hx1
    have hfl : frmLong zs = (x0 * 256 + x1).toNat := by
      unfold frmLong
      rw [List.getD_eq_getElem?_getD, List.getD_eq_getElem?_getD, hx0, hx1]
      rfl
    obtain ⟨hb01, hb02⟩ := hb0
    obtain ⟨hb11, hb12⟩ := hb1
    obtain ⟨k, hk⟩ : ∃ k : Nat, x0 * 256 + x1 = (k : Int) := ⟨(x0 * 256 + x1).toNat, by omega⟩
    have hkf : frmLong zs = k := by omega
    clear hfl hx0 hx1
    simp only [Nat.add_zero] at hc0
    have p0 : (0 : Int) < (n : Int) := by omega
    have p1 : (1 : Int) < (n : Int) := by omega
    unfold maxLen at hmc
    by_cases hbig : 2000 < k ∨ n < k + 4
    · have hf : frmTake zs = ([], 0, false) := by
        unfold frmTake
        rw [if_neg]
        simp only [frmGood, Bool.and_eq_true, decide_eq_true_eq]
        omega
      rw [hf]
      clear hf hl hkf hr hz
      by_cases hb : 2000 < k
      · have d1 : decide (2000 < (k : Int)) = true := by simp; omega
        clear hbig
        go_enter Try.func27, Try.ntmps27
        go_wp2
        go_quiet (fail)
        go_wp2
        go_ret3
        exact ⟨_, rfl, World.ownsRow_lit _ #[] 0 (Nat.le_refl _) (Nat.zero_le _) rfl, (below_drewN (Below.refl _ _) nq).alloc (Nat.le_refl _) _⟩
      · have d1 : decide (2000 < (k : Int)) = false := by simp; omega
        have d2 : (n : Int) - 4 < (k : Int) := by omega
        clear hbig
        go_enter Try.func27, Try.ntmps27
        go_wp2
        go_quiet (fail)
        go_wp2
        go_ret3
        exact ⟨_, rfl, World.ownsRow_lit _ #[] 0 (Nat.le_refl _) (Nat.zero_le _) rfl, (below_drewN (Below.refl _ _) nq).alloc (Nat.le_refl _) _⟩
    · have hk1 : k ≤ 2000 := by omega
      have hk2 : k + 4 ≤ n := by omega
      clear hbig
      obtain ⟨b', off', x2, e, hx2, hc2⟩ := hr.at1 (i := k + 2) (by omega)
      simp only [Option.some.injEq, Addr.mk.injEq, and_true] at e
      obtain ⟨rfl, rfl⟩ := e
      obtain ⟨b', off', x3, e, hx3, hc3⟩ := hr.at1 (i := k + 3) (by omega)
      simp only [Option.some.injEq, Addr.mk.injEq, and_true] at e
      obtain ⟨rfl, rfl⟩ := e
      have hb2 := hz _ _ hx2
      have hb3 := hz _ _ hx3
      obtain ⟨S, hS⟩ : ∃ S, sumI (zs.take (k + 2)) = S := ⟨_, rfl⟩
      have hSb := sumI_lt (zs.take (k + 2))
      rw [hS] at hSb
      have hgood : frmGood zs = decide (x2 * 256 + x3 = S) := by
        simp only [frmGood, hkf, hl]
        rw [decide_eq_true h4', decide_eq_true hk1, decide_eq_true hk2, List.getD_eq_getElem?_getD, List.getD_eq_getElem?_getD, hx2, hx3, hS]
        rfl
      clear hx2 hx3
      obtain ⟨hb21, hb22⟩ := hb2
      obtain ⟨hb31, hb32⟩ := hb3
      obtain ⟨hS1, hS2⟩ := hSb
      have d1 : decide (2000 < (k : Int)) = false := by simp; omega
      have d2 : decide ((n : Int) - 4 < (k : Int)) = false := by simp; omega
      have HS : ∀ m, Calls Try.prog 12 #[.slice (some ⟨b, off, none⟩) (k + 2) cap] (w.drewN m) fun e w' => e = .returned (.int .i64 S) ∧ w.drewN m = w' := fun m => by
        have h := specFrmSum (some ⟨b, off, none⟩) (k + 2) cap (zs.take (k + 2)) (w.drewN m) (by have := (hr.drewN m).sub 0 (k + 2) (by omega); simpa using this) (bs_take hz _) (by omega)
        rwa [hS] at h
      have HS := Lib.hid HS
      clear hS
      by_cases hsum : x2 * 256 + x3 = S
      · have hf : frmTake zs = ((zs.drop 2).take k, (k : Int) + 4, true) := by
          unfold frmTake
          rw [if_pos (by rw [hgood]; exact decide_eq_true hsum), hkf]
        rw [hf]
        have hlen : ((zs.drop 2).take k).length = k := by simp; omega
        rw [hlen]
        have t1 : (x2 != S / 256) = false := by simp; omega
        have t2 : (x3 != S % 256) = false := by simp; omega
        have HR := Lib.hid hr; clear hr
        clear hsum hgood hf hlen hl hkf hz
        go_enter Try.func27, Try.ntmps27
        go_wp2
        go_quiet (fail)
        obtain ⟨v2, w2, hrun, o2, g2, -⟩ := owns_append (P := Try.prog) ((w.drewN nq).alloc (.cells #[] 5)) byteEl (World.ownsRow_lit (w.drewN nq) #[] 0 (base := w.heap.size) (Nat.le_refl _) (Nat.zero_le _) rfl) (some ⟨b, off + 2, none⟩) k (cap - 2) _
          ((((HR.out.drewN nq).sub 2 k (by omega))).grew ((Below.refl _ _).alloc (Nat.le_refl _) (.cells #[] 5))) (ints_one _ _) (by omega) (by omega) (by simp)
        simp only [Nat.zero_add, List.nil_append] at o2
        have B2 := Lib.hid (((below_drewN (Below.refl w.heap.size w) nq).alloc (Nat.le_refl _) (.cells #[] 5)).grown g2 (by simp) (fun j hj => by simp [Value.ownBlock] at hj; omega))
        have R2 := Lib.hid hrun; clear hrun
        have O2 := Lib.hid o2; clear o2 g2
        go_wp2_with (first | (go_at_call 12; refine (HS.out nq).mono ?_; rintro e w' ⟨rfl, rfl⟩) | (at_builtin; refine wpList_append_run rfl _ _ rfl rfl rfl rfl R2.out ?_))
        go_ret3
        exact ⟨_, rfl, O2.out, B2.out⟩
      · have hf : frmTake zs = ([], 0, false) := by
          unfold frmTake
          rw [if_neg (by rw [hgood]; simpa using hsum)]
        rw [hf]
        clear hgood hf hl hkf hz hr
        by_cases t1 : x2 = S / 256
        · have t1' : (x2 != S / 256) = false := by simpa using t1
          have t2' : (x3 != S % 256) = true := by simp; omega
          clear hsum t1
          go_enter Try.func27, Try.ntmps27
          go_wp2
          go_quiet (fail)
          go_wp2_with (go_at_call 12; refine (HS.out nq).mono ?_; rintro e w' ⟨rfl, rfl⟩)
          go_ret3
          exact ⟨_, rfl, World.ownsRow_lit _ #[] 0 (Nat.le_refl _) (Nat.zero_le _) rfl, (below_drewN (Below.refl _ _) nq).alloc (Nat.le_refl _) _⟩
        · have t1' : (x2 != S / 256) = true := by simpa using t1
          clear hsum t1
          go_enter Try.func27, Try.ntmps27
          go_wp2
          go_quiet (fail)
          go_wp2_with (go_at_call 12; refine (HS.out nq).mono ?_; rintro e w' ⟨rfl, rfl⟩)
          go_ret3
          exact ⟨_, rfl, World.ownsRow_lit _ #[] 0 (Nat.le_refl _) (Nat.zero_le _) rfl, (below_drewN (Below.refl _ _) nq).alloc (Nat.le_refl _) _⟩
end Go.Proofs.Ytpnjkjpdfkkdkaa
