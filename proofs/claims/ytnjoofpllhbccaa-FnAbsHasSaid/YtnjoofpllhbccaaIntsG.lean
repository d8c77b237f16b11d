/- Lemmas and walks of this proof, some texts one behind the other. No condition. -/
import Derived.Test.YtnjoofpllhbccaaMarks
import Derived.Test.YtnjoofpllhbccaaShelf
import Derived.Sort.OwnSortedInts
import Derived.Lib.RowBridge
set_option linter.unusedSimpArgs false
set_option linter.unusedVariables false
/- Slices of numbers: copied, compared, measured, marked, sorted, made compact. No condition. -/
namespace Go.Proofs.Ytnjoofpllhbccaa
open Go.RowKit
set_option linter.unusedVariables false
attribute [local go_sem] ext_cell ext_frozen ext_lt ext_le ext_le1 lt_s2 lt_s3 lt_s4 lt_s5 lt_s6 ext_lt1 ext_lt2 ext_lt3

theorem intInfo : (Try.prog.info? 3).map (fun i => (i.zero, i.size, i.bytes)) = some (some (.int .i64 0), 1, 8) := by kernel_rfl
theorem intEl : El Try.prog 27 3 (.int .i64 0) 1 8 := El.mk' intInfo Try.underlying27 rfl (by omega)
theorem int_one (zs : List Int) : ∀ u ∈ ints .i64 zs, u.oneCell' = true := by
  intro u hu
  obtain ⟨x, _, rfl⟩ := List.mem_map.1 hu
  rfl


theorem eqIntS (a : Option Addr) (n cap : Nat) (zs : List Int) (a' : Option Addr) (n' cap' : Nat) (ys : List Int) (w : World) (hr : Rd w a n 1 (ints .i64 zs)) (hr' : Rd w a' n' 1 (ints .i64 ys))
    (hm : n ≤ 140737488351232) (hm' : n' ≤ 140737488351232) :
    Calls Try.prog 161 #[.slice a n cap, .slice a' n' cap'] w fun e w' => e = .returned (.bool (decide (zs = ys))) ∧ ∃ q, w' = w.drewN q := by
  have hl := hr.len1
  have hl' := hr'.len1
  have HR := Lib.hid hr; clear hr
  have HR' := Lib.hid hr'; clear hr'
  have HL := Lib.hid hl; clear hl
  have HL' := Lib.hid hl'; clear hl'
  by_cases hn : n = n'
  · subst hn
    go_enter Try.func161, Try.ntmps161
    go_wp2
    go_loopw [5] (fun i wr => ∃ k : Nat, k ≤ n ∧ i = .int .i64 k ∧ (∃ q, wr = w.drewN q) ∧ zs.take k = ys.take k) (fun i _ => n - (intOf i).toNat)
    case atStart => exact ⟨0, Nat.zero_le _, rfl, ⟨0, rfl⟩, by simp⟩
    case round =>
      obtain ⟨k, hk, rfl, ⟨q, rfl⟩, he⟩ := hrel
      have HE := Lib.hid he; clear he
      by_cases hlt : k < n
      · obtain ⟨b, off, x, rfl, hx, hcell⟩ := HR.out.at1 hlt
        obtain ⟨b', off', y, rfl, hy, hcell'⟩ := HR'.out.at1 hlt
        have HX := Lib.hid hx; clear hx
        have HY := Lib.hid hy; clear hy
        by_cases hxy : x = y
        · subst hxy
          go_wp2
          go_quiet (fail)
          go_wp2
          go_roundw
          case rel => exact ⟨k + 1, by omega, by go_num, ⟨_, rfl⟩, by rw [take_get HX.out, take_get HY.out, HE.out]⟩
          case measure => simp [intOf]; omega
        · have hb : (x == y) = false := by simp [hxy]
          have hb' : (x != y) = true := by simp [hxy]
          have hfin : decide (zs = ys) = false := by
            apply decide_eq_false
            intro e
            have h1 := HX.out
            rw [e, HY.out] at h1
            exact hxy (Option.some.inj h1).symm
          have HF := Lib.hid hfin; clear hfin hxy
          go_wp2
          go_quiet (fail)
          go_wp2
          go_ret
          exact ⟨by rw [HF.out]; rfl, _, World.drewN_drewN _ _ _⟩
      · go_wp2
        go_ret
        have : zs = ys := by
          have h := HE.out
          rwa [List.take_of_length_le (by have := HL.out; omega), List.take_of_length_le (by have := HL'.out; omega)] at h
        exact ⟨by rw [decide_eq_true this]; rfl, _, rfl⟩
  · have hfin : decide (zs = ys) = false := by
      apply decide_eq_false
      intro e
      have h1 := HL.out
      rw [e, HL'.out] at h1
      exact hn h1.symm
    have hb : ((n : Int) != (n' : Int)) = true := by simp; omega
    have HF := Lib.hid hfin; clear hfin hn
    go_enter Try.func161, Try.ntmps161
    go_wp2
    go_ret
    exact ⟨by rw [HF.out]; rfl, 0, rfl⟩

set_option maxHeartbeats 4000000 in
theorem markIntS (a : Option Addr) (n cap : Nat) (k0 : Nat) (cs : List Value) (B : Nat) (w : World) (ho : w.ownsRow B 3 1 (.slice a n cap) n cs) (hk0 : k0 ≤ 1099511627776) (hm : n ≤ 1099511627776) :
    Calls Try.prog 142 #[.slice a n cap, .int .i64 k0] w fun e w' => e = .returned (.int .i64 ((k0 + n * 1 : Nat) : Int)) ∧
      w'.ownsRow B 3 1 (.slice a n cap) n (markI k0 (n * 1)) ∧ Chg (fun b => (Value.slice a n cap).ownBlock = some b) w w' := by
  have HO := Lib.hid ho; clear ho
  go_enter Try.func142, Try.ntmps142
  go_wp2
  go_loopw [1, 5] (fun kk i wr => ∃ k K : Nat, k ≤ n ∧ K = k0 + k * 1 ∧ i = .int .i64 k ∧ kk = .int .i64 K ∧ Chg (fun b => (Value.slice a n cap).ownBlock = some b) w wr ∧
    ∃ ys, wr.ownsRow B 3 1 (.slice a n cap) n ys ∧ ∀ j, j < k * 1 → ys[j]? = (markI k0 (n * 1))[j]?) (fun _ i _ => n - (intOf i).toNat)
  case atStart => exact ⟨0, k0, Nat.zero_le _, by omega, rfl, rfl, Chg.refl _ _, _, HO.out, fun j hj => absurd hj (by omega)⟩
  case round =>
    obtain ⟨k, K, hk, hK, rfl, rfl, hg, ys, how, hys⟩ := hrel
    have hK1 : K ≤ 11000000000000 := by omega
    have HK := Lib.hid hK; clear hK
    by_cases hlt : k < n
    · obtain ⟨g, rfl⟩ : ∃ g, a = some ⟨g, 0, none⟩ := by
        rcases how.2 with ⟨h1, h2⟩ | ⟨g, cap', cur, h1, _⟩
        · omega
        · simp only [Value.slice.injEq] at h1
          exact ⟨g, h1.1⟩
      have HH := Lib.hid hys; clear hys
      have HG := Lib.hid hg; clear hg
      have HW := Lib.hid how; clear how
      obtain ⟨y0, e0⟩ := own_some HW.out (j := k * 1) (by omega)
      rw [Nat.mul_one] at e0
      have f0 := fun j => HW.out.frozenAt j
      go_wp2
      go_roundw
      case rel =>
        have hK := HK.out
        rw [show (⟨g, k, none⟩ : Addr) = ⟨g, k * 1, none⟩ from by rw [Nat.mul_one]]
        obtain ⟨ho', hg'⟩ := own_sets ([.int .i64 (K : Int)]) _ _ (k * 1) HW.out
        refine ⟨k + 1, K + 1, by omega, by omega, by go_num, by go_num, (HG.out.trans (Chg.of_grownBy hg') (fun _ _ h => h) (fun i _ h => h)), _, ho', mark_step HW.out.1 (by omega) _ rfl (fun r hr => ?_) HH.out⟩
        match r, hr with
          | 0, _ => rw [← hK]; rfl
      case measure => simp [intOf]; omega
    · obtain rfl : k = n := by omega
      have hfin := mark_all how.1 hys
      subst hfin
      clear hys
      have HW := Lib.hid how; clear how
      have HG := Lib.hid hg; clear hg
      go_wp2
      go_ret
      exact ⟨by rw [HK.out]; rfl, HW.out, HG.out⟩


set_option maxHeartbeats 2000000 in
theorem heldIntS (a : Option Addr) (n cap : Nat) (k0 : Nat) (w : World) (hr : Rd w a n 1 (markI k0 (n * 1))) (hk0 : k0 ≤ 1099511627776) (hm : n ≤ 1099511627776) :
    Calls Try.prog 143 #[.slice a n cap, .int .i64 k0] w fun e w' => e = .returned (.int .i64 ((k0 + n * 1 : Nat) : Int)) ∧ w = w' := by
  have HR := Lib.hid hr; clear hr
  go_enter Try.func143, Try.ntmps143
  go_wp2
  go_loop [1, 5] (fun kk i => ∃ k K : Nat, k ≤ n ∧ K = k0 + k * 1 ∧ i = .int .i64 k ∧ kk = .int .i64 K) (fun _ i => n - (intOf i).toNat)
  case atStart => exact ⟨0, k0, Nat.zero_le _, by omega, rfl, rfl⟩
  case round =>
    obtain ⟨k, K, hk, hK, rfl, rfl⟩ := hrel
    have hK1 : K ≤ 11000000000000 := by omega
    have HK := Lib.hid hK; clear hK
    by_cases hlt : k < n
    · obtain ⟨b, off, rfl, hcell⟩ : ∃ b off, a = some ⟨b, off, none⟩ ∧ ∀ j, j < n * 1 → w.cell? ⟨b, off + j, none⟩ = some (.int .i64 ((k0 + j : Nat) : Int)) := by
        rcases HR.out.2 with h0 | ⟨b, off, e, hc⟩
        · have := markI_len k0 (n * 1)
          rw [h0, List.length_nil] at this
          omega
        · exact ⟨b, off, e, fun j hj => hc j _ (markI_get _ _ _ hj)⟩
      have c0 := hcell (k * 1) (by omega)
      rw [show k0 + (k * 1) = K from by have := HK.out; omega] at c0
      clear hcell
      rw [Nat.mul_one] at c0
      go_wp2
      go_round
      case rel => exact ⟨k + 1, K + 1, by omega, by have := HK.out; omega, by go_num, by go_num⟩
      case measure => simp [intOf]; omega
    · obtain rfl : k = n := by omega
      go_wp2
      go_ret
      exact ⟨by rw [HK.out]; (first | rfl | simp), rfl⟩



theorem grow_none (w : World) : Go.Sort.grow w #[] = w := by simp [Go.Sort.grow]
/-- The library's sort on a row of the call's own. -/
theorem sortInts (B : Nat) (a : Option Addr) (n cap : Nat) (zs : List Int) (w : World) (ho : w.ownsRow B 3 1 (.slice a n cap) n (ints .i64 zs)) (hn : n ≤ 1099511627776) :
    Calls Try.prog 164 #[.slice a n cap] w fun e w' => e = .returned (.tuple #[]) ∧ w'.ownsRow B 3 1 (.slice a n cap) n (ints .i64 (zs.mergeSort fun x y => decide (x ≤ y))) ∧ Chg (fun b => (Value.slice a n cap).ownBlock = some b) w w' := by
  have hl : zs.length = n := by have := ho.1; simpa [ints] using this
  rcases ho.2 with ⟨hv, hn0⟩ | ⟨g, cap', cur, hv, hbase, hb, h1, h2, h3, h4⟩
  · simp only [Value.slice.injEq] at hv
    obtain ⟨rfl, rfl, rfl⟩ := hv
    have hz : zs = [] := List.eq_nil_of_length_eq_zero hl
    subst hz
    refine (Try.slices_Sort_int_none none 0 w).mono ?_
    rintro e w' ⟨rfl, rfl⟩
    exact ⟨rfl, by simpa using ho, Chg.refl _ _⟩
  · simp only [Value.slice.injEq] at hv
    obtain ⟨rfl, _, rfl⟩ := hv
    subst hl
    rw [Nat.mul_one] at h4
    refine (Try.slices_Sort_int g 0 cap zs w (holds_of_blockI hb h4) (Array.getElem?_eq_some_iff.1 hb).1 (by omega)).mono ?_
    rintro e w' ⟨rfl, nn, os, rfl⟩
    refine ⟨rfl, ownsRow_sortedI (by simp) hbase hb h1 h2 h3, (Chg.of_grownBy (grownBy_sortedI _)).trans (Chg.refl _ _) (fun i _ h => ?_) (fun _ _ h => h)⟩
    simpa [Value.ownBlock] using h
/-- .. and made compact. -/
theorem compactInts (B : Nat) (a : Option Addr) (n cap : Nat) (zs : List Int) (w : World) (ho : w.ownsRow B 3 1 (.slice a n cap) n (ints .i64 zs)) (hn : n ≤ 1099511627776) :
    Calls Try.prog 165 #[.slice a n cap] w fun e w' => ∃ m, m = (Lib.compact zs).length ∧ e = .returned (.slice a m cap) ∧ w'.ownsRow B 3 1 (.slice a m cap) m (ints .i64 (Lib.compact zs)) ∧ Chg (fun b => (Value.slice a n cap).ownBlock = some b) w w' := by
  have hl : zs.length = n := by have := ho.1; simpa [ints] using this
  rcases ho.2 with ⟨hv, hn0⟩ | ⟨g, cap', cur, hv, hbase, hb, h1, h2, h3, h4⟩
  · simp only [Value.slice.injEq] at hv
    obtain ⟨rfl, rfl, rfl⟩ := hv
    have hz : zs = [] := List.eq_nil_of_length_eq_zero hl
    subst hz
    refine (Try.slices_Compact_int_empty none 0 w).mono ?_
    rintro e w' ⟨rfl, rfl⟩
    exact ⟨0, rfl, rfl, ho, Chg.refl _ _⟩
  · simp only [Value.slice.injEq] at hv
    obtain ⟨rfl, _, rfl⟩ := hv
    subst hl
    rw [Nat.mul_one] at h4
    refine (Try.slices_Compact_int g 0 cap zs w (holds_of_blockI hb h4) (by omega) h1).mono ?_
    rintro e w' ⟨rfl, q, rfl⟩
    have hle : (Lib.compact zs).length ≤ zs.length := Lib.compact_length_le zs
    have hw : ∀ d, Go.Sort.putRow (Value.int .i64) (Sort.ahead w q) g 0 d = Go.Sort.grow (Go.Sort.putRow (Value.int .i64) (Sort.ahead w q) g 0 d) #[] := fun d => (grow_none _).symm
    rw [hw]
    have hs := ownsRow_sortedI (w := w) (n := q) (os := #[]) (ss := zs) (ts := Lib.compact zs ++ List.replicate (zs.length - (Lib.compact zs).length) 0) (e := 3) (by simp; omega) hbase hb h1 h2 h3
    refine ⟨_, rfl, rfl, ?_, (Chg.of_grownBy (grownBy_sortedI _)).trans (Chg.refl _ _) (fun i _ h => ?_) (fun _ _ h => h)⟩
    · refine ⟨by simp [ints], .inr ?_⟩
      rcases hs.2 with ⟨hv, _⟩ | ⟨g', cap'', cur', hv, hbase', hb', k1, k2, k3, k4⟩
      · cases hv
      · simp only [Value.slice.injEq, Option.some.injEq, Addr.mk.injEq, and_true, true_and] at hv
        obtain ⟨rfl, rfl⟩ := hv
        refine ⟨g, cap, cur', rfl, hbase, hb', by omega, k2, k3, ?_⟩
        have h5 := congrArg (List.take (Lib.compact zs).length) k4
        rw [List.take_take, Nat.mul_one, Nat.min_eq_left hle] at h5
        rw [Nat.mul_one, h5, List.map_append, List.take_append_of_le_length (by simp), List.take_of_length_le (by simp)]
        rfl
    · simpa [Value.ownBlock] using h

end Go.Proofs.Ytnjoofpllhbccaa
/- Rows of numbers as answers: what the laws' walks use of them. No condition. -/
namespace Go.Proofs.Ytnjoofpllhbccaa
open Go.RowKit
set_option linter.unusedVariables false

/-- The answer: a row of numbers of the call's own. -/
def RetIs (L : List Int) (w : World) (e : Ending) (w' : World) : Prop := ∃ a c, e = .returned (.slice a L.length c) ∧ w'.ownsRow w.heap.size 3 1 (.slice a L.length c) L.length (ints .i64 L) ∧ Grew w w'
theorem retIs_of {P : Program} {f : FuncId} {args : Array Value} {w : World} {L S : List Int} (h : Calls P f args w fun e w' => RetIs L w e w') (hS : L = S) : Calls P f args w fun e w' => RetIs S w e w' := hS ▸ h
theorem eqIntG (a : Option Addr) (n cap : Nat) (a' : Option Addr) (n' cap' : Nat) (zs ys : List Int) (w : World) (hr : Rd w a n 1 (ints .i64 zs)) (hr' : Rd w a' n' 1 (ints .i64 ys))
    (hm : n ≤ 140737488351232) (hm' : n' ≤ 140737488351232) :
    Calls Try.prog 161 #[.slice a n cap, .slice a' n' cap'] w fun e w' => e = .returned (.bool (decide (zs = ys))) ∧ Grew w w' :=
  (eqIntS a n cap zs a' n' cap' ys w hr hr' hm hm').mono fun e w' ⟨he, q, hq⟩ => ⟨he, by rw [hq]; exact grew_drewN _ q⟩
theorem heldIntG (a : Option Addr) (n cap : Nat) (k0 : Nat) (w : World) (hr : Rd w a n 1 (markI k0 (n * 1))) (hk0 : k0 ≤ 1099511627776) (hm : n ≤ 1099511627776) :
    Calls Try.prog 143 #[.slice a n cap, .int .i64 k0] w fun e w' => e = .returned (.int .i64 ((k0 + n * 1 : Nat) : Int)) ∧ Grew w w' :=
  (heldIntS a n cap k0 w hr hk0 hm).mono fun e w' ⟨he, hw⟩ => ⟨he, by rw [← hw]; exact Below.refl _ _⟩
end Go.Proofs.Ytnjoofpllhbccaa
