/- Contracts of the functions on encoded numbers and frames. No condition. -/
import Derived.Test.YtpnjkjpdfkkdkaaBytes
namespace Go.Proofs.Ytpnjkjpdfkkdkaa
open Go.RowKit
set_option linter.unusedVariables false

def twoB (n : Int) : List Int := [n / 256, n % 256]

theorem twoBytes (n : Int) (hn0 : 0 ≤ n) (hn : n ≤ 65535) (w : World) :
    Calls Try.prog 37 #[.int .i64 n] w fun e w' => ∃ v, e = .returned v ∧ w'.ownsRow w.heap.size 5 1 v 2 (ints .u8 (twoB n)) ∧ Grew w w' := by
  go_enter Try.func37, Try.ntmps37
  go_wp2
  go_ret
  exact ⟨_, rfl, World.ownsRow_lit w _ 2 (Nat.le_refl _) (by decide) rfl, (Below.refl _ _).alloc (Nat.le_refl _) _⟩

theorem fromTwo (a : Option Addr) (n cap : Nat) (zs : List Int) (w : World) (hr : Rd w a n 1 (ints .u8 zs)) (hz : Bs zs) (hn : 2 ≤ n) :
    Calls Try.prog 42 #[.slice a n cap] w fun e w' => e = .returned (.int .i64 (zs.getD 0 0 * 256 + zs.getD 1 0)) ∧ ∃ q, w' = w.drewN q := by
  obtain ⟨b, off, x, rfl, hx, hcell⟩ := hr.at1 (i := 0) (by omega)
  obtain ⟨b', off', y, e, hy, hcell'⟩ := hr.at1 (i := 1) (by omega)
  simp only [Option.some.injEq, Addr.mk.injEq, and_true] at e
  obtain ⟨rfl, rfl⟩ := e
  have b1 := hz _ _ hx
  have b2 := hz _ _ hy
  have HF : Hid (zs.getD 0 0 * 256 + zs.getD 1 0 = x * 256 + y) := by
    show _ = _
    rw [List.getD_eq_getElem?_getD, List.getD_eq_getElem?_getD, hx, hy]; rfl
  clear hx hy hr hz
  simp only [Nat.add_zero] at hcell
  have p0 : (0 : Int) < (n : Int) := by omega
  have p1 : (1 : Int) < (n : Int) := by omega
  obtain ⟨b11, b12⟩ := b1
  obtain ⟨b21, b22⟩ := b2
  go_enter Try.func42, Try.ntmps42
  go_wp2
  go_quiet (fail)
  go_wp2
  go_ret
  exact ⟨by rw [HF.out, ← or_i64 8 (x * 256) y (by omega) b21 (by omega) (by omega) (by omega)]; rfl, _, rfl⟩

/-- Three bytes as a number, and three bytes of a number. -/
def wirN (x y z : Int) : Int := x * 65536 + y * 256 + z
def wirB (n : Int) : List Int := [n / 65536, n / 256 % 256, n % 256]
/-- What WirPut returns. -/
def wirPut (zs : List Int) (m : Int) : List Int := if -8000000 ≤ m ∧ m ≤ 8000000 then zs ++ wirB (m + 8000000) else zs

/-- What WirTake returns. -/
def wirTake (zs : List Int) (n : Nat) (at_ : Int) : Int × Bool :=
  if at_ < 0 ∨ at_ > (n : Int) - 3 then (0, false)
  else if wirN (zs.getD at_.toNat 0) (zs.getD (at_.toNat + 1) 0) (zs.getD (at_.toNat + 2) 0) > 16000000 then (0, false)
  else (wirN (zs.getD at_.toNat 0) (zs.getD (at_.toNat + 1) 0) (zs.getD (at_.toNat + 2) 0) - 8000000, true)

theorem implWirTake_no (a : Option Addr) (n cap : Nat) (at_ : Int) (w : World) (hm : n ≤ 140737488351232) (h : at_ < 0 ∨ at_ > (n : Int) - 3) :
    Calls Try.prog 17 #[.slice a n cap, .int .i64 at_] w fun e w' => e = .returned (.tuple #[.int .i64 0, .bool false]) ∧ ∃ q, w' = w.drewN q := by
  by_cases h1 : at_ < 0
  · have hb : decide (at_ < 0) = true := by simpa using h1
    go_enter Try.func17, Try.ntmps17
    go_wp2
    go_ret2
    exact ⟨rfl, 0, rfl⟩
  · have hb : decide (at_ < 0) = false := by simpa using h1
    have h2 : (n : Int) - 3 < at_ := by omega
    go_enter Try.func17, Try.ntmps17
    go_wp2
    go_ret2
    exact ⟨rfl, 0, rfl⟩

theorem specWirTake_no (a : Option Addr) (n cap : Nat) (at_ : Int) (w : World) (hm : n ≤ 140737488351232) (h : at_ < 0 ∨ at_ > (n : Int) - 3) :
    Calls Try.prog 16 #[.slice a n cap, .int .i64 at_] w fun e w' => e = .returned (.tuple #[.int .i64 0, .bool false]) ∧ ∃ q, w' = w.drewN q := by
  by_cases h1 : at_ < 0
  · have hb : decide (at_ < 0) = true := by simpa using h1
    go_enter Try.func16, Try.ntmps16
    go_wp2
    go_ret2
    exact ⟨rfl, 0, rfl⟩
  · have hb : decide (at_ < 0) = false := by simpa using h1
    have h2 : (n : Int) - 3 < at_ := by omega
    go_enter Try.func16, Try.ntmps16
    go_wp2
    go_ret2
    exact ⟨rfl, 0, rfl⟩

theorem implWirTake_any (a : Option Addr) (n cap : Nat) (zs : List Int) (k : Nat) (w : World) (hr : Rd w a n 1 (ints .u8 zs)) (hz : Bs zs) (hm : n ≤ 140737488351232) (h : k + 3 ≤ n) (big : Bool)
    (hbig : big = decide (wirN (zs.getD k 0) (zs.getD (k + 1) 0) (zs.getD (k + 2) 0) > 16000000)) :
    Calls Try.prog 17 #[.slice a n cap, .int .i64 k] w fun e w' =>
      e = .returned (if big then .tuple #[.int .i64 0, .bool false] else .tuple #[.int .i64 (wirN (zs.getD k 0) (zs.getD (k + 1) 0) (zs.getD (k + 2) 0) - 8000000), .bool true]) ∧ ∃ q, w' = w.drewN q := by
  obtain ⟨b, off, x, rfl, hx, hcell⟩ := hr.at1 (i := k) (by omega)
  obtain ⟨b', off', y, e, hy, hcell'⟩ := hr.at1 (i := k + 1) (by omega)
  simp only [Option.some.injEq, Addr.mk.injEq, and_true] at e
  obtain ⟨rfl, rfl⟩ := e
  obtain ⟨b', off', z, e, hzz, hcell''⟩ := hr.at1 (i := k + 2) (by omega)
  simp only [Option.some.injEq, Addr.mk.injEq, and_true] at e
  obtain ⟨rfl, rfl⟩ := e
  have b1 := hz _ _ hx
  have b2 := hz _ _ hy
  have b3 := hz _ _ hzz
  simp only [List.getD_eq_getElem?_getD, hx, hy, hzz, Option.getD_some] at hbig ⊢
  clear hx hy hr hz hzz
  obtain ⟨b11, b12⟩ := b1
  obtain ⟨b21, b22⟩ := b2
  obtain ⟨b31, b32⟩ := b3
  have o1 := or_i64 16 (x * 65536) (y * 256) (by omega) (by omega) (by omega) (by omega) (by omega)
  have o2 := or_i64 8 (x * 65536 + y * 256) z (by omega) (by omega) (by omega) (by omega) (by omega)
  have hd : decide ((k : Int) < 0) = false := by simp
  have hd2 : decide ((n : Int) - 3 < (k : Int)) = false := by simp; omega
  have p0 : (k : Int) < (n : Int) := by omega
  have p1 : (k : Int) + 1 < (n : Int) := by omega
  have p2 : (k : Int) + 2 < (n : Int) := by omega
  cases big
  · have hb : ¬ (16000000 < wirN x y z) := by have := of_decide_eq_false hbig.symm; omega
    clear hbig
    have HN : Hid (wirN x y z = x * 65536 + y * 256 + z) := rfl
    rw [HN.out] at hb
    have hb2 : ¬ (8000000 < x * 65536 + y * 256 + z - 8000000) := by omega
    go_enter Try.func17, Try.ntmps17
    go_wp2
    go_quiet (fail)
    go_wp2
    go_ret2
    exact ⟨rfl, _, rfl⟩
  · have hb : 16000000 < wirN x y z := by have := of_decide_eq_true hbig.symm; omega
    clear hbig
    have HN : Hid (wirN x y z = x * 65536 + y * 256 + z) := rfl
    rw [HN.out] at hb
    have hb2 : 8000000 < x * 65536 + y * 256 + z - 8000000 := by omega
    go_enter Try.func17, Try.ntmps17
    go_wp2
    go_quiet (fail)
    go_wp2
    go_ret2
    exact ⟨rfl, _, rfl⟩

theorem specWirTake_any (a : Option Addr) (n cap : Nat) (zs : List Int) (k : Nat) (w : World) (hr : Rd w a n 1 (ints .u8 zs)) (hz : Bs zs) (hm : n ≤ 140737488351232) (h : k + 3 ≤ n) (big : Bool)
    (hbig : big = decide (wirN (zs.getD k 0) (zs.getD (k + 1) 0) (zs.getD (k + 2) 0) > 16000000)) :
    Calls Try.prog 16 #[.slice a n cap, .int .i64 k] w fun e w' =>
      e = .returned (if big then .tuple #[.int .i64 0, .bool false] else .tuple #[.int .i64 (wirN (zs.getD k 0) (zs.getD (k + 1) 0) (zs.getD (k + 2) 0) - 8000000), .bool true]) ∧ ∃ q, w' = w.drewN q := by
  obtain ⟨b, off, x, rfl, hx, hcell⟩ := hr.at1 (i := k) (by omega)
  obtain ⟨b', off', y, e, hy, hcell'⟩ := hr.at1 (i := k + 1) (by omega)
  simp only [Option.some.injEq, Addr.mk.injEq, and_true] at e
  obtain ⟨rfl, rfl⟩ := e
  obtain ⟨b', off', z, e, hzz, hcell''⟩ := hr.at1 (i := k + 2) (by omega)
  simp only [Option.some.injEq, Addr.mk.injEq, and_true] at e
  obtain ⟨rfl, rfl⟩ := e
  have b1 := hz _ _ hx
  have b2 := hz _ _ hy
  have b3 := hz _ _ hzz
  simp only [List.getD_eq_getElem?_getD, hx, hy, hzz, Option.getD_some] at hbig ⊢
  clear hx hy hr hz hzz
  obtain ⟨b11, b12⟩ := b1
  obtain ⟨b21, b22⟩ := b2
  obtain ⟨b31, b32⟩ := b3
  have o1 := or_i64 16 (x * 65536) (y * 256) (by omega) (by omega) (by omega) (by omega) (by omega)
  have o2 := or_i64 8 (x * 65536 + y * 256) z (by omega) (by omega) (by omega) (by omega) (by omega)
  have hd : decide ((k : Int) < 0) = false := by simp
  have hd2 : decide ((n : Int) - 3 < (k : Int)) = false := by simp; omega
  have p0 : (k : Int) < (n : Int) := by omega
  have p1 : (k : Int) + 1 < (n : Int) := by omega
  have p2 : (k : Int) + 2 < (n : Int) := by omega
  cases big
  · have hb : ¬ (16000000 < wirN x y z) := by have := of_decide_eq_false hbig.symm; omega
    clear hbig
    have HN : Hid (wirN x y z = x * 65536 + y * 256 + z) := rfl
    rw [HN.out] at hb
    have hb2 : ¬ (8000000 < x * 65536 + y * 256 + z - 8000000) := by omega
    go_enter Try.func16, Try.ntmps16
    go_wp2
    go_quiet (fail)
    go_wp2
    go_ret2
    exact ⟨rfl, _, rfl⟩
  · have hb : 16000000 < wirN x y z := by have := of_decide_eq_true hbig.symm; omega
    clear hbig
    have HN : Hid (wirN x y z = x * 65536 + y * 256 + z) := rfl
    rw [HN.out] at hb
    have hb2 : 8000000 < x * 65536 + y * 256 + z - 8000000 := by omega
    go_enter Try.func16, Try.ntmps16
    go_wp2
    go_quiet (fail)
    go_wp2
    go_ret2
    exact ⟨rfl, _, rfl⟩

theorem l1In (n lo hi : Int) (b : Bool) (hb : b = decide (lo ≤ n ∧ n ≤ hi)) (w : World) : Calls Try.prog 35 #[.int .i64 n, .int .i64 lo, .int .i64 hi] w fun e w' => e = .returned (.bool b) ∧ w = w' := by
  by_cases h1 : lo ≤ n
  · by_cases h2 : n ≤ hi
    · obtain rfl : b = true := by rw [hb]; exact decide_eq_true ⟨h1, h2⟩
      clear hb
      go_enter Try.func35, Try.ntmps35
      go_wp2
      go_ret
      exact ⟨rfl, rfl⟩
    · obtain rfl : b = false := by rw [hb]; exact decide_eq_false (fun h => h2 h.2)
      clear hb
      go_enter Try.func35, Try.ntmps35
      go_wp2
      go_ret
      exact ⟨rfl, rfl⟩
  · obtain rfl : b = false := by rw [hb]; exact decide_eq_false (fun h => h1 h.1)
    clear hb
    go_enter Try.func35, Try.ntmps35
    go_wp2
    go_ret
    exact ⟨rfl, rfl⟩

theorem wirB_one (m : Int) : ∀ u ∈ ints .u8 (wirB m), u.oneCell' = true := ints_one _ _
theorem specWirPut (a : Option Addr) (n cap : Nat) (zs : List Int) (m : Int) (w : World) (hr : Rd w a n 1 (ints .u8 zs)) (hm : n ≤ 1099511627776) :
    Calls Try.prog 18 #[.slice a n cap, .int .i64 m] w fun e w' => ∃ v, e = .returned v ∧ w'.ownsRow w.heap.size 5 1 v (wirPut zs m).length (ints .u8 (wirPut zs m)) ∧ Grew w w' := by
  have hl := hr.len1
  have h0 : (w.alloc (.cells #[] 5)).ownsRow w.heap.size 5 1 (.slice (some ⟨w.heap.size, 0, none⟩) 0 0) 0 [] := World.ownsRow_lit w #[] 0 (Nat.le_refl _) (Nat.zero_le _) rfl
  have hr1 := hr.grew ((Below.refl _ _).alloc (Nat.le_refl _) (.cells #[] 5))
  obtain ⟨v1, w1, hrun1, hown1, hg1, hat1⟩ := owns_append (P := Try.prog) _ byteEl h0 a n cap _ hr1 (ints_one _ _) (by omega) (by omega) (by simp)
  simp only [Nat.zero_add, List.nil_append] at hown1
  have R1 := Lib.hid hrun1; clear hrun1
  have hb1 : Grew w w1 := ((Below.refl _ _).alloc (Nat.le_refl _) _).grown hg1 (by simp) (fun k hk => (h0.lt k hk).1)
  clear hat1 hr1 hr h0 hg1
  by_cases hin : -8000000 ≤ m ∧ m ≤ 8000000
  · have hfin : wirPut zs m = zs ++ wirB (m + 8000000) := if_pos hin
    have hlen : (wirPut zs m).length = n + 3 := by rw [hfin, List.length_append, hl]; rfl
    rw [hlen, hfin, ints_append]
    have hd := decide_eq_true hin
    obtain ⟨i1, i2⟩ := hin
    obtain ⟨v2, w2, hrun2, hown2, hg2, hat2⟩ := owns_append_lit (P := Try.prog) w1 byteEl hown1 3 (ints .u8 (wirB (m + 8000000))) rfl (wirB_one _) (by omega) (by omega) hb1.size
    have hb2 : Grew w w2 := hb1.grown hg2 hb1.size (fun k hk => (hown1.lt k hk).1)
    have R2 := Lib.hid hrun2; clear hrun2
    have O2 := Lib.hid hown2; clear hown2
    have B2 := Lib.hid hb2; clear hb2
    clear hg2 hat2 hown1 hb1 hfin hlen
    go_enter Try.func18, Try.ntmps18
    go_wp2_with (first | (at_builtin; refine wpList_append_run rfl _ _ rfl rfl rfl rfl R1.out ?_) | (go_at_call 35; refine (l1In _ _ _ _ rfl _).mono ?_; rintro e w' ⟨rfl, rfl⟩) | (at_builtin; refine wpList_append_run rfl _ _ rfl rfl rfl rfl R2.out ?_))
    go_ret
    exact ⟨v2, rfl, O2.out, B2.out⟩
  · have hfin : wirPut zs m = zs := if_neg hin
    rw [hfin, hl]
    have hd := decide_eq_false hin
    have O2 := Lib.hid hown1; clear hown1
    have B2 := Lib.hid hb1; clear hb1
    clear hfin hl hin
    go_enter Try.func18, Try.ntmps18
    go_wp2_with (first | (at_builtin; refine wpList_append_run rfl _ _ rfl rfl rfl rfl R1.out ?_) | (go_at_call 35; refine (l1In _ _ _ _ rfl _).mono ?_; rintro e w' ⟨rfl, rfl⟩))
    go_ret
    exact ⟨v1, rfl, O2.out, B2.out⟩

theorem implWirPut (a : Option Addr) (n cap : Nat) (zs : List Int) (m : Int) (w : World) (hr : Rd w a n 1 (ints .u8 zs)) (hm : n ≤ 1099511627776) :
    Calls Try.prog 19 #[.slice a n cap, .int .i64 m] w fun e w' => ∃ v, e = .returned v ∧ w'.ownsRow w.heap.size 5 1 v (wirPut zs m).length (ints .u8 (wirPut zs m)) ∧ Grew w w' := by
  have hl := hr.len1
  have HR := Lib.hid hr; clear hr
  by_cases hin : -8000000 ≤ m ∧ m ≤ 8000000
  · have hfin : wirPut zs m = zs ++ wirB (m + 8000000) := if_pos hin
    have hlen : (wirPut zs m).length = n + 3 := by rw [hfin, List.length_append, hl]; rfl
    rw [hlen, hfin, ints_append]
    obtain ⟨i1, i2⟩ := hin
    have d1 : decide (m < -8000000) = false := by simpa using i1
    have d2 : decide (8000000 < m) = false := by simpa using i2
    clear hfin hlen hl
    go_enter Try.func19, Try.ntmps19
    go_wp2_with fail
    refine (copyBytes _ _ _ _ _ HR.out (by omega)).mono ?_
    rintro e w1 ⟨v1, rfl, hown1, hb1⟩
    obtain ⟨v2, w2, hrun2, hown2, hg2, hat2⟩ := owns_append_lit (P := Try.prog) w1 byteEl hown1 3 (ints .u8 (wirB (m + 8000000))) rfl (ints_one _ _) (by omega) (by omega) hb1.size
    have hb2 : Grew w w2 := hb1.grown hg2 hb1.size (fun k hk => (hown1.lt k hk).1)
    have R2 := Lib.hid hrun2; clear hrun2
    have O2 := Lib.hid hown2; clear hown2
    have B2 := Lib.hid hb2; clear hb2
    clear hg2 hat2 hown1 hb1
    go_wp2_with (at_builtin; refine wpList_append_run rfl _ _ rfl rfl rfl rfl R2.out ?_)
    go_ret
    exact ⟨v2, rfl, O2.out, B2.out⟩
  · have hfin : wirPut zs m = zs := if_neg hin
    rw [hfin, hl]
    clear hfin hl
    by_cases i1 : m < -8000000
    · have d1 : decide (m < -8000000) = true := by simpa using i1
      clear hin
      go_enter Try.func19, Try.ntmps19
      go_wp2_with fail
      refine (copyBytes _ _ _ _ _ HR.out (by omega)).mono ?_
      rintro e w1 ⟨v1, rfl, hown1, hb1⟩
      have O2 := Lib.hid hown1; clear hown1
      have B2 := Lib.hid hb1; clear hb1
      go_wp2
      go_ret
      exact ⟨v1, rfl, O2.out, B2.out⟩
    · have d1 : decide (m < -8000000) = false := by simpa using i1
      have d2 : 8000000 < m := by omega
      clear hin
      go_enter Try.func19, Try.ntmps19
      go_wp2_with fail
      refine (copyBytes _ _ _ _ _ HR.out (by omega)).mono ?_
      rintro e w1 ⟨v1, rfl, hown1, hb1⟩
      have O2 := Lib.hid hown1; clear hown1
      have B2 := Lib.hid hb1; clear hb1
      go_wp2
      go_ret
      exact ⟨v1, rfl, O2.out, B2.out⟩

/-- What FrmPut returns. -/
def frmPut (zs : List Int) : List Int := if zs.length > 2000 then [] else (twoB zs.length ++ zs) ++ twoB (sumI (twoB zs.length ++ zs))

theorem bs_twoB (n : Int) (h0 : 0 ≤ n) (h1 : n ≤ 65535) : Bs (twoB n) := by
  intro i x h
  match i, h with
  | 0, h => obtain rfl := Option.some.inj h; omega
  | 1, h => obtain rfl := Option.some.inj h; omega
  | (_ + 2), h => simp [twoB] at h
theorem bs_append {xs ys : List Int} (hx : Bs xs) (hy : Bs ys) : Bs (xs ++ ys) := by
  intro i x h
  rw [List.getElem?_append] at h
  split at h
  · exact hx _ _ h
  · exact hy _ _ h

theorem specFrmPut (a : Option Addr) (n cap : Nat) (zs : List Int) (w : World) (hr : Rd w a n 1 (ints .u8 zs)) (hz : Bs zs) (hm : n ≤ 1099511627776) :
    Calls Try.prog 22 #[.slice a n cap] w fun e w' => ∃ v, e = .returned v ∧ w'.ownsRow w.heap.size 5 1 v (frmPut zs).length (ints .u8 (frmPut zs)) ∧ Grew w w' := by
  have hl := hr.len1
  by_cases hbig : 2000 < n
  · have hfin : frmPut zs = [] := if_pos (by omega)
    rw [hfin]
    clear hfin hl hr
    go_enter Try.func22, Try.ntmps22
    go_wp2
    go_ret
    exact ⟨_, rfl, World.ownsRow_lit w #[] 0 (Nat.le_refl _) (Nat.zero_le _) rfl, (Below.refl _ _).alloc (Nat.le_refl _) _⟩
  · have hn : n ≤ 2000 := by omega
    have hfin : frmPut zs = (twoB n ++ zs) ++ twoB (sumI (twoB n ++ zs)) := by rw [← hl]; exact if_neg (by omega)
    have hlen : (frmPut zs).length = n + 4 := by rw [hfin]; simp [twoB, hl]
    rw [hlen, hfin, ints_append]
    have hout : (twoB n ++ zs).length = n + 2 := by simp [twoB, hl]
    have hbs : Bs (twoB n ++ zs) := bs_append (bs_twoB n (by omega) (by omega)) hz
    have h0 : (w.alloc (.cells (ints .u8 (twoB n)).toArray 5)).ownsRow w.heap.size 5 1 (.slice (some ⟨w.heap.size, 0, none⟩) 2 2) 2 (ints .u8 (twoB n)) := World.ownsRow_lit w _ 2 (Nat.le_refl _) (by decide) rfl
    have hr1 := hr.grew ((Below.refl _ _).alloc (Nat.le_refl _) (.cells (ints .u8 (twoB n)).toArray 5))
    obtain ⟨v1, w1, hrun1, hown1, hg1, hat1⟩ := owns_append (P := Try.prog) _ byteEl h0 a n cap _ hr1 (ints_one _ _) (by omega) (by omega) (by simp)
    have hb1 : Grew w w1 := ((Below.refl _ _).alloc (Nat.le_refl _) _).grown hg1 (by simp) (fun k hk => (h0.lt k hk).1)
    rw [← ints_append] at hown1
    clear hat1 hr1 hr h0 hg1 hfin hlen hl hbig
    obtain ⟨a1, cap1, rfl, hrd1, -, -, -, -⟩ := owns_form hown1
    have HS := Lib.hid (specFrmSum a1 (2 + n) cap1 _ w1 hrd1 hbs (by omega))
    clear hrd1 hbs
    have hS := sumI_lt (twoB n ++ zs)
    generalize sumI (twoB n ++ zs) = S at *
    obtain ⟨hS0, hS1⟩ := hS
    obtain ⟨v2, w2, hrun2, hown2, hg2, hat2⟩ := owns_append_lit (P := Try.prog) w1 byteEl hown1 2 (ints .u8 (twoB S)) rfl (ints_one _ _) (by omega) (by omega) hb1.size
    have hb2 : Grew w w2 := hb1.grown hg2 hb1.size (fun k hk => (hown1.lt k hk).1)
    rw [show 2 + n + 2 = n + 4 from by omega] at hown2
    have R1 := Lib.hid hrun1; clear hrun1
    have R2 := Lib.hid hrun2; clear hrun2
    have O2 := Lib.hid hown2; clear hown2
    have B2 := Lib.hid hb2; clear hb2
    clear hg2 hat2 hown1 hb1 hout
    go_enter Try.func22, Try.ntmps22
    go_wp2_with (at_builtin; refine wpList_append_run rfl _ _ rfl rfl rfl rfl R1.out ?_)
    refine HS.out.mono ?_
    rintro e w' ⟨rfl, rfl⟩
    go_wp2_with (at_builtin; refine wpList_append_run rfl _ _ rfl rfl rfl rfl R2.out ?_)
    go_ret
    exact ⟨v2, rfl, O2.out, B2.out⟩

theorem implFrmPut (a : Option Addr) (n cap : Nat) (zs : List Int) (w : World) (hr : Rd w a n 1 (ints .u8 zs)) (hz : Bs zs) (hm : n ≤ 1099511627776) :
    Calls Try.prog 23 #[.slice a n cap] w fun e w' => ∃ v, e = .returned v ∧ w'.ownsRow w.heap.size 5 1 v (frmPut zs).length (ints .u8 (frmPut zs)) ∧ Grew w w' := by
  have hl := hr.len1
  by_cases hbig : 2000 < n
  · have hfin : frmPut zs = [] := if_pos (by omega)
    rw [hfin]
    clear hfin hl hr
    go_enter Try.func23, Try.ntmps23
    go_wp2
    go_ret
    exact ⟨_, rfl, World.ownsRow_nil _ _ _ _, Below.refl _ _⟩
  · have hn : n ≤ 2000 := by omega
    have hfin : frmPut zs = (twoB n ++ zs) ++ twoB (sumI (twoB n ++ zs)) := by rw [← hl]; exact if_neg (by omega)
    have hlen : (frmPut zs).length = n + 4 := by rw [hfin]; simp [twoB, hl]
    rw [hlen, hfin, ints_append]
    have hout : (twoB n ++ zs).length = n + 2 := by simp [twoB, hl]
    have hbs : Bs (twoB n ++ zs) := bs_append (bs_twoB n (by omega) (by omega)) hz
    have HR := Lib.hid hr
    clear hr hfin hlen hl hbig
    have HBS := Lib.hid hbs; clear hbs
    clear hout
    have hS := sumI_lt (twoB n ++ zs)
    generalize hSe : sumI (twoB n ++ zs) = S at *
    have HE := Lib.hid hSe; clear hSe
    obtain ⟨hS0, hS1⟩ := hS
    go_enter Try.func23, Try.ntmps23
    go_wp2_with fail
    refine (twoBytes n (by omega) (by omega) w).mono ?_
    rintro e w0 ⟨v0, rfl, h0, hb0⟩
    obtain ⟨v1, w1, hrun1, hown1, hg1, hat1⟩ := owns_append (P := Try.prog) _ byteEl h0 a n cap _ (HR.out.grew hb0) (ints_one _ _) (by omega) (by omega) hb0.size
    have hb1 : Grew w w1 := hb0.grown hg1 hb0.size (fun k hk => (h0.lt k hk).1)
    rw [← ints_append] at hown1
    obtain ⟨a1, cap1, rfl, hrd1, -, -, -, -⟩ := owns_form hown1
    have hs := implFrmSum a1 (2 + n) cap1 _ w1 hrd1 HBS.out (by omega)
    rw [HE.out] at hs
    have HS := Lib.hid hs; clear hs
    have R1 := Lib.hid hrun1; clear hrun1
    have B1 := Lib.hid hb1; clear hb1
    have O1 := Lib.hid hown1; clear hown1
    clear hg1 hat1 h0 hb0 hrd1
    go_wp2_with (at_builtin; refine wpList_append_run rfl _ _ rfl rfl rfl rfl R1.out ?_)
    refine HS.out.mono ?_
    rintro e w' ⟨rfl, rfl⟩
    go_wp2_with fail
    refine (twoBytes S (by omega) (by omega) w1).mono ?_
    rintro e w2 ⟨v2, rfl, h2, hb2⟩
    obtain ⟨a2, cap2, rfl, hrd2, -, -, -, -⟩ := owns_form h2
    have hown1 : w2.ownsRow w.heap.size 5 1 (.slice a1 (2 + n) cap1) (2 + n) (ints .u8 (twoB n ++ zs)) := O1.out.kept (World.grownBy.of_below hb2) (by
      cases hv : (Value.slice a1 (2 + n) cap1).ownBlock <;> simp)
    obtain ⟨v3, w3, hrun3, hown3, hg3, hat3⟩ := owns_append (P := Try.prog) _ byteEl hown1 a2 2 cap2 _ hrd2 (ints_one _ _) (by omega) (by omega) (Nat.le_trans B1.out.size hb2.size)
    have hb3 : Grew w w3 := (B1.out.trans (hb2.mono B1.out.size)).grown hg3 (Nat.le_trans B1.out.size hb2.size) (fun k hk => (hown1.lt k hk).1)
    rw [show 2 + n + 2 = n + 4 from by omega] at hown3
    have R3 := Lib.hid hrun3; clear hrun3
    have O3 := Lib.hid hown3; clear hown3
    have B3 := Lib.hid hb3; clear hb3
    clear hg3 hat3 hown1 h2 hb2 hrd2 HS R1
    go_wp2_with (at_builtin; refine wpList_append_run rfl _ _ rfl rfl rfl rfl R3.out ?_)
    go_ret
    exact ⟨v3, rfl, O3.out, B3.out⟩

theorem implWirTake (a : Option Addr) (n cap : Nat) (zs : List Int) (m : Int) (w : World) (hr : Rd w a n 1 (ints .u8 zs)) (hz : Bs zs) (hm : n ≤ 140737488351232) :
    Calls Try.prog 17 #[.slice a n cap, .int .i64 m] w fun e w' => e = .returned (.tuple #[.int .i64 (wirTake zs n m).1, .bool (wirTake zs n m).2]) ∧ ∃ q, w' = w.drewN q := by
  by_cases h : m < 0 ∨ m > (n : Int) - 3
  · refine (implWirTake_no a n cap m w hm h).mono ?_
    rintro e w' ⟨rfl, hw⟩
    rw [show wirTake zs n m = (0, false) from if_pos h]
    exact ⟨rfl, hw⟩
  · obtain ⟨k, rfl⟩ := Int.eq_ofNat_of_zero_le (show 0 ≤ m by omega)
    refine (implWirTake_any a n cap zs k w hr hz hm (by omega) _ rfl).mono ?_
    rintro e w' ⟨rfl, hw⟩
    refine ⟨?_, hw⟩
    rw [show wirTake zs n (k : Int) = if wirN (zs.getD k 0) (zs.getD (k + 1) 0) (zs.getD (k + 2) 0) > 16000000 then (0, false) else (wirN (zs.getD k 0) (zs.getD (k + 1) 0) (zs.getD (k + 2) 0) - 8000000, true) from if_neg h]
    by_cases hb : wirN (zs.getD k 0) (zs.getD (k + 1) 0) (zs.getD (k + 2) 0) > 16000000
    · rw [decide_eq_true hb, if_pos hb]; rfl
    · rw [decide_eq_false hb, if_neg hb]; rfl

theorem specWirTake (a : Option Addr) (n cap : Nat) (zs : List Int) (m : Int) (w : World) (hr : Rd w a n 1 (ints .u8 zs)) (hz : Bs zs) (hm : n ≤ 140737488351232) :
    Calls Try.prog 16 #[.slice a n cap, .int .i64 m] w fun e w' => e = .returned (.tuple #[.int .i64 (wirTake zs n m).1, .bool (wirTake zs n m).2]) ∧ ∃ q, w' = w.drewN q := by
  by_cases h : m < 0 ∨ m > (n : Int) - 3
  · refine (specWirTake_no a n cap m w hm h).mono ?_
    rintro e w' ⟨rfl, hw⟩
    rw [show wirTake zs n m = (0, false) from if_pos h]
    exact ⟨rfl, hw⟩
  · obtain ⟨k, rfl⟩ := Int.eq_ofNat_of_zero_le (show 0 ≤ m by omega)
    refine (specWirTake_any a n cap zs k w hr hz hm (by omega) _ rfl).mono ?_
    rintro e w' ⟨rfl, hw⟩
    refine ⟨?_, hw⟩
    rw [show wirTake zs n (k : Int) = if wirN (zs.getD k 0) (zs.getD (k + 1) 0) (zs.getD (k + 2) 0) > 16000000 then (0, false) else (wirN (zs.getD k 0) (zs.getD (k + 1) 0) (zs.getD (k + 2) 0) - 8000000, true) from if_neg h]
    by_cases hb : wirN (zs.getD k 0) (zs.getD (k + 1) 0) (zs.getD (k + 2) 0) > 16000000
    · rw [decide_eq_true hb, if_pos hb]; rfl
    · rw [decide_eq_false hb, if_neg hb]; rfl
end Go.Proofs.Ytpnjkjpdfkkdkaa
