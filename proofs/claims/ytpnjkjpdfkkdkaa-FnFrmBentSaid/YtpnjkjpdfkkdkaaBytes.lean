/- Contracts of the functions on byte slices that this seat's laws call. No condition. -/
import Derived.Test.YtpnjkjpdfkkdkaaBase
namespace Go.Proofs.Ytpnjkjpdfkkdkaa
open Go.RowKit
set_option linter.unusedVariables false

def sumI (l : List Int) : Int := l.foldl (fun s x => (s * 257 + x) % 65521) 1
theorem sumI_snoc (l : List Int) (x : Int) : sumI (l ++ [x]) = (sumI l * 257 + x) % 65521 := by simp [sumI, List.foldl_append]
theorem sumI_lt (l : List Int) : 0 ≤ sumI l ∧ sumI l < 65521 := by
  rcases List.eq_nil_or_concat l with h | ⟨l', x, rfl⟩
  · subst h; decide
  · rw [List.concat_eq_append, sumI_snoc]; omega

/-- What marking writes: the numbers from k on, as bytes. -/
def markL (k n : Nat) : List Int := (List.range n).map fun i => ((k + i : Nat) : Int) % 256
theorem markL_length (k n : Nat) : (markL k n).length = n := by simp [markL]
theorem markL_get (k n i : Nat) (h : i < n) : (markL k n)[i]? = some (((k + i : Nat) : Int) % 256) := by simp [markL, h]

theorem implFrmSum (a : Option Addr) (n cap : Nat) (zs : List Int) (w : World) (hr : Rd w a n 1 (ints .u8 zs)) (hz : Bs zs) (hm : n ≤ 140737488351232) :
    Calls Try.prog 14 #[.slice a n cap] w fun e w' => e = .returned (.int .i64 (sumI zs)) ∧ w = w' := by
  have hl := hr.len1
  have HR := Lib.hid hr; clear hr
  have HZ := Lib.hid hz; clear hz
  have HL := Lib.hid hl; clear hl
  go_enter Try.func14, Try.ntmps14
  go_wp2
  go_loop [3, 8] (fun s i => ∃ k : Nat, k ≤ n ∧ i = .int .i64 k ∧ s = .int .i64 (sumI (zs.take k))) (fun _ i => n - (intOf i).toNat)
  case atStart => exact ⟨0, Nat.zero_le _, rfl, rfl⟩
  case round =>
    obtain ⟨k, hk, rfl, rfl⟩ := hrel
    by_cases hlt : k < n
    · obtain ⟨b, off, x, rfl, hx, hcell⟩ := HR.out.at1 hlt
      have hb := HZ.out _ _ hx
      have hs := sumI_lt (zs.take k)
      have HS : Hid (sumI (zs.take (k + 1)) = (sumI (zs.take k) * 257 + x) % 65521) := by
        show _ = _
        rw [take_get hx, sumI_snoc]
      clear hx
      generalize sumI (zs.take k) = S at *
      obtain ⟨hb1, hb2⟩ := hb
      obtain ⟨hs1, hs2⟩ := hs
      go_wp2
      go_round
      case rel => exact ⟨k + 1, by omega, by go_num, by rw [HS.out]⟩
      case measure => simp [intOf]; omega
    · go_wp2
      go_ret
      exact ⟨by rw [List.take_of_length_le (by have := HL.out; omega)]; rfl, rfl⟩

theorem specFrmSum (a : Option Addr) (n cap : Nat) (zs : List Int) (w : World) (hr : Rd w a n 1 (ints .u8 zs)) (hz : Bs zs) (hm : n ≤ 140737488351232) :
    Calls Try.prog 12 #[.slice a n cap] w fun e w' => e = .returned (.int .i64 (sumI zs)) ∧ w = w' := by
  have hl := hr.len1
  have HR := Lib.hid hr; clear hr
  have HZ := Lib.hid hz; clear hz
  have HL := Lib.hid hl; clear hl
  go_enter Try.func12, Try.ntmps12
  go_wp2
  go_loop [3, 4] (fun s i => ∃ k : Nat, k ≤ n ∧ i = .int .i64 k ∧ s = .int .i64 (sumI (zs.take k))) (fun _ i => n - (intOf i).toNat)
  case atStart => exact ⟨0, Nat.zero_le _, rfl, rfl⟩
  case round =>
    obtain ⟨k, hk, rfl, rfl⟩ := hrel
    by_cases hlt : k < n
    · obtain ⟨b, off, x, rfl, hx, hcell⟩ := HR.out.at1 hlt
      have hb := HZ.out _ _ hx
      have hs := sumI_lt (zs.take k)
      have HS : Hid (sumI (zs.take (k + 1)) = (sumI (zs.take k) * 257 + x) % 65521) := by
        show _ = _
        rw [take_get hx, sumI_snoc]
      clear hx
      generalize sumI (zs.take k) = S at *
      obtain ⟨hb1, hb2⟩ := hb
      obtain ⟨hs1, hs2⟩ := hs
      go_wp2
      go_round
      case rel => exact ⟨k + 1, by omega, by go_num, by rw [HS.out]⟩
      case measure => simp [intOf]; omega
    · go_wp2
      go_ret
      exact ⟨by rw [List.take_of_length_le (by have := HL.out; omega)]; rfl, rfl⟩

theorem byteInfo : (Try.prog.info? 5).map (fun i => (i.zero, i.size, i.bytes)) = some (some (.int .u8 0), 1, 1) := by kernel_rfl

theorem toByteS (a : Option Addr) (n cap : Nat) (zs : List Int) (w : World) (hr : Rd w a n 1 (ints .u8 zs)) (hm : n ≤ 140737488351232) :
    Calls Try.prog 13 #[.slice a n cap] w fun e w' => ∃ v, e = .returned v ∧ w'.ownsRow w.heap.size 5 1 v n (ints .u8 zs) ∧ Grew w w' := by
  have hl := hr.len1
  obtain ⟨i0, hi, hz0, hz1, hz2⟩ := info_parts byteInfo
  obtain ⟨w1, hmk, hown, hgr⟩ := run_make_full (P := Try.prog) w w.heap.size 22 5 i0 (.int .u8 0) 1 Try.underlying22 hi hz0 hz1 .i64 .i64 n (by rw [hz2]; omega) (by unfold maxLen; omega) (Nat.le_refl _)
  have HB := Lib.hid (Below.of_grownBy hgr (Nat.le_refl _) (fun k e => nomatch e)); clear hgr
  have HR := Lib.hid hr; clear hr
  have HL := Lib.hid hl; clear hl
  have HO := Lib.hid hown; clear hown
  clear hi hz0 hz1 hz2
  go_enter Try.func13, Try.ntmps13
  go_wp2
  clear hmk
  go_loopw [4] (fun i wr => ∃ k : Nat, k ≤ n ∧ i = .int .i64 k ∧ Grew w wr ∧ ∃ ys, wr.ownsRow w.heap.size 5 1 (.slice (some ⟨w.heap.size, 0, none⟩) n n) n ys ∧ ∀ j, j < k → ys[j]? = (ints .u8 zs)[j]?) (fun i _ => n - (intOf i).toNat)
  case atStart => exact ⟨0, Nat.zero_le _, rfl, HB.out, _, HO.out, fun j hj => absurd hj (Nat.not_lt_zero _)⟩
  case round =>
    obtain ⟨k, hk, rfl, hg, ys, how, hys⟩ := hrel
    by_cases hlt : k < n
    · obtain ⟨b, off, x, rfl, hx, hcell⟩ := (HR.out.grew hg).at1 hlt
      have hc2 := how.cellAt k (by omega)
      have hf2 := how.frozenAt k
      obtain ⟨y, hy⟩ : ∃ y, ys[k]? = some y := ⟨ys[k]'(by have := how.1; omega), List.getElem?_eq_getElem _⟩
      rw [hy] at hc2
      have HX := Lib.hid hx; clear hx
      have HY := Lib.hid hy; clear hy
      have HH := Lib.hid hys; clear hys
      have HG := Lib.hid hg; clear hg
      have HW := Lib.hid how; clear how
      go_wp2
      go_roundw
      case rel =>
        obtain ⟨ho', hg'⟩ := HW.out.stored k (.int .u8 x)
        refine ⟨k + 1, by omega, by go_num, HG.out.setCell (by simp) _, _, ho', fun j hj => ?_⟩
        by_cases e : j = k
        · subst e
          rw [List.getElem?_set_self (by have := HW.out.1; omega), ints_get HX.out]
        · rw [List.getElem?_set_ne (by omega)]
          exact HH.out j (by omega)
      case measure => simp [intOf]; omega
    · have hfin : ys = ints .u8 zs := by
        have h1 := how.1
        have h2 := HL.out
        apply List.ext_getElem?
        intro j
        by_cases hj : j < n
        · exact hys j (by omega)
        · rw [List.getElem?_eq_none (by omega), List.getElem?_eq_none (by rw [ints_length]; omega)]
      subst hfin
      clear hys
      have HO := Lib.hid how; clear how
      have HG := Lib.hid hg; clear hg
      go_wp2
      go_ret
      exact ⟨_, rfl, HO.out, HG.out⟩

theorem eqByteS (a : Option Addr) (n cap : Nat) (zs : List Int) (a' : Option Addr) (n' cap' : Nat) (ys : List Int) (w : World) (hr : Rd w a n 1 (ints .u8 zs)) (hr' : Rd w a' n' 1 (ints .u8 ys))
    (hm : n ≤ 140737488351232) (hm' : n' ≤ 140737488351232) :
    Calls Try.prog 15 #[.slice a n cap, .slice a' n' cap'] w fun e w' => e = .returned (.bool (decide (zs = ys))) ∧ ∃ q, w' = w.drewN q := by
  have hl := hr.len1
  have hl' := hr'.len1
  have HR := Lib.hid hr; clear hr
  have HR' := Lib.hid hr'; clear hr'
  have HL := Lib.hid hl; clear hl
  have HL' := Lib.hid hl'; clear hl'
  by_cases hn : n = n'
  · subst hn
    go_enter Try.func15, Try.ntmps15
    go_wp2
    go_loopw [5] (fun i wr => ∃ k : Nat, k ≤ n ∧ i = .int .i64 k ∧ (∃ q, wr = w.drewN q) ∧ zs.take k = ys.take k) (fun i _ => n - (intOf i).toNat)
    case atStart => exact ⟨0, Nat.zero_le _, rfl, ⟨0, rfl⟩, by simp⟩
    case round =>
      obtain ⟨k, hk, rfl, ⟨q, rfl⟩, he⟩ := hrel
      have HE := Lib.hid he; clear he
      by_cases hlt : k < n
      · obtain ⟨b, off, x, rfl, hx, hcell⟩ := HR.out.at1 hlt
        obtain ⟨b', off', y, rfl, hy, hcell'⟩ := HR'.out.at1 hlt
        have HX := Lib.hid hx; clear hx
        have HY := Lib.hid hy; clear hy
        by_cases hxy : x = y
        · subst hxy
          go_wp2
          go_quiet (fail)
          go_wp2
          go_roundw
          case rel => exact ⟨k + 1, by omega, by go_num, ⟨_, rfl⟩, by rw [take_get HX.out, take_get HY.out, HE.out]⟩
          case measure => simp [intOf]; omega
        · have hb : (x == y) = false := by simp [hxy]
          have hb' : (x != y) = true := by simp [hxy]
          have hfin : decide (zs = ys) = false := by
            apply decide_eq_false
            intro e
            have h1 := HX.out
            rw [e, HY.out] at h1
            exact hxy (Option.some.inj h1).symm
          have HF := Lib.hid hfin; clear hfin hxy
          go_wp2
          go_quiet (fail)
          go_wp2
          go_ret
          exact ⟨by rw [HF.out]; rfl, _, World.drewN_drewN _ _ _⟩
      · go_wp2
        go_ret
        have : zs = ys := by
          have h := HE.out
          rwa [List.take_of_length_le (by have := HL.out; omega), List.take_of_length_le (by have := HL'.out; omega)] at h
        exact ⟨by rw [decide_eq_true this]; rfl, _, rfl⟩
  · have hfin : decide (zs = ys) = false := by
      apply decide_eq_false
      intro e
      have h1 := HL.out
      rw [e, HL'.out] at h1
      exact hn h1.symm
    have hb : ((n : Int) != (n' : Int)) = true := by simp; omega
    have HF := Lib.hid hfin; clear hfin hn
    go_enter Try.func15, Try.ntmps15
    go_wp2
    go_ret
    exact ⟨by rw [HF.out]; rfl, 0, rfl⟩

theorem markByteS (a : Option Addr) (n cap : Nat) (k0 : Nat) (cs : List Value) (base : Nat) (w : World) (ho : w.ownsRow base 5 1 (.slice a n cap) n cs) (hk0 : k0 ≤ 1099511627776) (hm : n ≤ 140737488351232) :
    Calls Try.prog 20 #[.slice a n cap, .int .i64 k0] w fun e w' => e = .returned (.int .i64 (k0 + n : Nat)) ∧
      w'.ownsRow base 5 1 (.slice a n cap) n (ints .u8 (markL k0 n)) ∧ Chg (fun b => (Value.slice a n cap).ownBlock = some b) w w' := by
  have HO := Lib.hid ho; clear ho
  go_enter Try.func20, Try.ntmps20
  go_wp2
  go_loopw [1, 5] (fun kk i wr => ∃ k : Nat, k ≤ n ∧ i = .int .i64 k ∧ kk = .int .i64 (k0 + k : Nat) ∧ Chg (fun b => (Value.slice a n cap).ownBlock = some b) w wr ∧
    ∃ ys, wr.ownsRow base 5 1 (.slice a n cap) n ys ∧ ∀ j, j < k → ys[j]? = (ints .u8 (markL k0 n))[j]?) (fun _ i _ => n - (intOf i).toNat)
  case atStart => exact ⟨0, Nat.zero_le _, rfl, rfl, Chg.refl _ _, _, HO.out, fun j hj => absurd hj (Nat.not_lt_zero _)⟩
  case round =>
    obtain ⟨k, hk, rfl, rfl, hg, ys, how, hys⟩ := hrel
    by_cases hlt : k < n
    · obtain ⟨g, rfl⟩ : ∃ g, a = some ⟨g, 0, none⟩ := by
        rcases how.2 with ⟨h1, h2⟩ | ⟨g, cap', cur, h1, _⟩
        · omega
        · simp only [Value.slice.injEq] at h1
          exact ⟨g, h1.1⟩
      have hc2 := how.cellAt k (by omega)
      have hf2 := how.frozenAt k
      obtain ⟨y, hy⟩ : ∃ y, ys[k]? = some y := ⟨ys[k]'(by have := how.1; omega), List.getElem?_eq_getElem _⟩
      rw [hy] at hc2
      have HY := Lib.hid hy; clear hy
      have HH := Lib.hid hys; clear hys
      have HG := Lib.hid hg; clear hg
      have HW := Lib.hid how; clear how
      go_wp2
      go_roundw
      case rel =>
        obtain ⟨ho', hg'⟩ := HW.out.stored k (.int .u8 (((k0 : Int) + (k : Int)) % 256))
        refine ⟨k + 1, by omega, by go_num, by go_num, (HG.out.trans (Chg.of_grownBy hg') (fun _ _ h => h) (fun i _ h => h)), _, ho', fun j hj => ?_⟩
        by_cases e : j = k
        · subst e
          rw [List.getElem?_set_self (by have := HW.out.1; omega), ints_get (markL_get k0 n j hlt)]
          simp
        · rw [List.getElem?_set_ne (by omega)]
          exact HH.out j (by omega)
      case measure => simp [intOf]; omega
    · obtain rfl : k = n := by omega
      have hfin : ys = ints .u8 (markL k0 k) := by
        have h1 := how.1
        apply List.ext_getElem?
        intro j
        by_cases hj : j < k
        · exact hys j hj
        · rw [List.getElem?_eq_none (by omega), List.getElem?_eq_none (by rw [ints_length, markL_length]; omega)]
      subst hfin
      clear hys
      have HW := Lib.hid how; clear how
      have HG := Lib.hid hg; clear hg
      go_wp2
      go_ret
      exact ⟨rfl, HW.out, HG.out⟩

theorem heldByteS (a : Option Addr) (n cap : Nat) (k0 : Nat) (w : World) (hr : Rd w a n 1 (ints .u8 (markL k0 n))) (hk0 : k0 ≤ 1099511627776) (hm : n ≤ 140737488351232) :
    Calls Try.prog 21 #[.slice a n cap, .int .i64 k0] w fun e w' => e = .returned (.int .i64 (k0 + n : Nat)) ∧ w = w' := by
  have HR := Lib.hid hr; clear hr
  go_enter Try.func21, Try.ntmps21
  go_wp2
  go_loop [1, 5] (fun kk i => ∃ k : Nat, k ≤ n ∧ i = .int .i64 k ∧ kk = .int .i64 (k0 + k : Nat)) (fun _ i => n - (intOf i).toNat)
  case atStart => exact ⟨0, Nat.zero_le _, rfl, rfl⟩
  case round =>
    obtain ⟨k, hk, rfl, rfl⟩ := hrel
    by_cases hlt : k < n
    · obtain ⟨b, off, x, rfl, hx, hcell⟩ := HR.out.at1 hlt
      rw [markL_get k0 n k hlt] at hx
      obtain rfl := Option.some.inj hx
      clear hx
      go_wp2
      go_round
      case rel => exact ⟨k + 1, by omega, by go_num, by go_num⟩
      case measure => simp [intOf]; omega
    · obtain rfl : k = n := by omega
      go_wp2
      go_ret
      exact ⟨rfl, rfl⟩

theorem byteEl : El Try.prog 22 5 (.int .u8 0) 1 1 := El.mk' byteInfo Try.underlying22 rfl (by omega)
theorem ints_one (k : IntKind) (zs : List Int) : ∀ u ∈ ints k zs, u.oneCell' = true := by
  intro u hu
  obtain ⟨x, _, rfl⟩ := List.mem_map.1 hu
  rfl

theorem copyBytes (a : Option Addr) (n cap : Nat) (zs : List Int) (w : World) (hr : Rd w a n 1 (ints .u8 zs)) (hm : n ≤ 140737488351232) :
    Calls Try.prog 36 #[.slice a n cap] w fun e w' => ∃ v, e = .returned v ∧ w'.ownsRow w.heap.size 5 1 v n (ints .u8 zs) ∧ Grew w w' := by
  obtain ⟨v', w', hrun, hown, hg, hat⟩ := owns_append (P := Try.prog) w byteEl (World.ownsRow_nil w w.heap.size 5 1) a n cap _ hr (ints_one _ _) (by omega) (by omega) (Nat.le_refl _)
  simp only [Nat.zero_add, List.nil_append] at hown
  have HB := Lib.hid (Below.of_grownBy hg (Nat.le_refl _) (fun k e => nomatch e)); clear hg hat hr
  have HO := Lib.hid hown; clear hown
  go_enter Try.func36, Try.ntmps36
  have HR := Lib.hid hrun; clear hrun
  go_wp2_with (at_builtin; refine wpList_append_run rfl _ _ rfl rfl rfl rfl HR.out ?_)
  go_ret
  exact ⟨_, rfl, HO.out, HB.out⟩
end Go.Proofs.Ytpnjkjpdfkkdkaa
