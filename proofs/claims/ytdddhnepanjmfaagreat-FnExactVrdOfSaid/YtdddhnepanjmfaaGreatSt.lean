/- Lemmas and walks of this proof, some texts one behind the other. No condition. -/
import Derived.Shelf.Small.Bits
import Derived.Shelf.Small.Wraps
import Derived.Shelf.Strconv.Itoa0
import Derived.Shelf.Sort.Plain
import Derived.Shelf.Slices.Turned
import Derived.Ground.Names2Prog
import Derived.Shelf.Slices.CompactI
import Derived.Shelf.Slices.SearchI
import Derived.Shelf.Slices.Cells
import Derived.Shelf.Slices.In.SortNone
import Derived.Shelf.SlIterI.Sorted
import Derived.Ground.GgzProg
import Derived.Test.YtdddhnepanjmfaaGreatProg
import Derived.Test.YtdddhnepanjmfaaGreatReadS
import Derived.Sort.OwnSortedInts
import Derived.Lib.RowBridge
set_option linter.unusedSimpArgs false
set_option linter.unusedVariables false
/-
  DERIVED: THE SHELF's CONTRACTS AT THIS DUMP, IN PLAIN WORDS (tools/lay-plain.mjs out of 'TryzShelf.lean', which tools/lay-shelf.mjs wrote): THE SAME DECLARATIONS UNDER THE SAME NAMES: 'import', 'namespace', 'open', 'def', 'theorem' AND NOTHING ELSE: no command of the shelf's: FOR A HAND-IN. Each laying: the table of numbers ('.._ren') and one theorem, a field a fact of the dump's own or the kernel's comparison; each contract: ONE APPLICATION.
-/
namespace Go.Proofs
open Go.Shelf
def Tryz.lays189_ren : Go.Shelf.Ren := ⟨fun | 189 => 92 | 125 => 104 | 257 => 123 | 128 => 140 | 129 => 141 | 294 => 151 | 295 => 152 | 296 => 153 | 297 => 154 | 298 => 155 | 299 => 156 | 216 => 157 | 300 => 158 | 301 => 159 | 328 => 170 | 329 => 164 | 330 => 165 | 331 => 171 | 332 => 172 | 215 => 142 | 343 => 176 | n => n, fun | 28 => 54 | 3 => 3 | 46 => 170 | 0 => 0 | 51 => 219 | 53 => 221 | 4 => 4 | 183 => 212 | 182 => 211 | 131 => 216 | 5 => 5 | 9 => 9 | 218 => 236 | 222 => 240 | 228 => 258 | 229 => 259 | n => n, fun | n => n⟩
theorem Tryz.lays189 : Go.Proofs.Lays.n189 Tryz.prog Tryz.lays189_ren := {
  mixed := by kernel_rfl
  f125 := Tryz.func104.trans (congrArg some (by kernel_rfl))
  f128 := Tryz.func140.trans (congrArg some (by kernel_rfl))
  f129 := Tryz.func141.trans (congrArg some (by kernel_rfl))
  f189 := Tryz.func92.trans (congrArg some (by kernel_rfl))
  f215 := Tryz.func142.trans (congrArg some (by kernel_rfl))
  f216 := Tryz.func157.trans (congrArg some (by kernel_rfl))
  f257 := Tryz.func123.trans (congrArg some (by kernel_rfl))
  f294 := Tryz.func151.trans (congrArg some (by kernel_rfl))
  f295 := Tryz.func152.trans (congrArg some (by kernel_rfl))
  f296 := Tryz.func153.trans (congrArg some (by kernel_rfl))
  f297 := Tryz.func154.trans (congrArg some (by kernel_rfl))
  f298 := Tryz.func155.trans (congrArg some (by kernel_rfl))
  f299 := Tryz.func156.trans (congrArg some (by kernel_rfl))
  f300 := Tryz.func158.trans (congrArg some (by kernel_rfl))
  f301 := Tryz.func159.trans (congrArg some (by kernel_rfl))
  f328 := Tryz.func170.trans (congrArg some (by kernel_rfl))
  f329 := Tryz.func164.trans (congrArg some (by kernel_rfl))
  f330 := Tryz.func165.trans (congrArg some (by kernel_rfl))
  f331 := Tryz.func171.trans (congrArg some (by kernel_rfl))
  f332 := Tryz.func172.trans (congrArg some (by kernel_rfl))
  f343 := Tryz.func176.trans (congrArg some (by kernel_rfl))
  t0 := Tryz.underlying0
  a0 := Tryz.isAgg0
  z0 := Tryz.sizeOf0
  v0 := Tryz.zeroValue0
  t3 := Tryz.underlying3
  a3 := Tryz.isAgg3
  z3 := Tryz.sizeOf3
  v3 := Tryz.zeroValue3
  t4 := Tryz.underlying4
  a4 := Tryz.isAgg4
  z4 := Tryz.sizeOf4
  v4 := Tryz.zeroValue4
  t5 := Tryz.underlying5
  a5 := Tryz.isAgg5
  z5 := Tryz.sizeOf5
  v5 := Tryz.zeroValue5
  t9 := Tryz.underlying9
  a9 := Tryz.isAgg9
  z9 := Tryz.sizeOf9
  v9 := Tryz.zeroValue9
  t28 := Tryz.underlying54
  a28 := Tryz.isAgg54
  z28 := Tryz.sizeOf54
  v28 := Tryz.zeroValue54
  t46 := Tryz.underlying170
  a46 := Tryz.isAgg170
  z46 := Tryz.sizeOf170
  v46 := Tryz.zeroValue170
  t51 := Tryz.underlying219
  a51 := Tryz.isAgg219
  z51 := Tryz.sizeOf219
  v51 := Tryz.zeroValue219
  t53 := Tryz.underlying221
  a53 := Tryz.isAgg221
  z53 := Tryz.sizeOf221
  v53 := Tryz.zeroValue221
  t131 := Tryz.underlying216
  a131 := Tryz.isAgg216
  z131 := Tryz.sizeOf216
  v131 := Tryz.zeroValue216
  t182 := Tryz.underlying211
  a182 := Tryz.isAgg211
  z182 := Tryz.sizeOf211
  v182 := Tryz.zeroValue211
  t183 := Tryz.underlying212
  a183 := Tryz.isAgg212
  z183 := Tryz.sizeOf212
  v183 := Tryz.zeroValue212
  t218 := Tryz.underlying236
  a218 := Tryz.isAgg236
  z218 := Tryz.sizeOf236
  v218 := Tryz.zeroValue236
  t222 := Tryz.underlying240
  a222 := Tryz.isAgg240
  z222 := Tryz.sizeOf240
  v222 := Tryz.zeroValue240
  t228 := Tryz.underlying258
  a228 := Tryz.isAgg258
  z228 := Tryz.sizeOf258
  v228 := Tryz.zeroValue258
  t229 := Tryz.underlying259
  a229 := Tryz.isAgg259
  z229 := Tryz.sizeOf259
  v229 := Tryz.zeroValue259 }
open Go.Sort Go.RowKit in
theorem Tryz.slices_Sort_int (blk off cap : Nat) (zs : List Int) (w : World) (hH : Holds (Value.int .i64) w blk off zs.toArray) (hblk : blk < w.heap.size) (hsz : zs.length < 4611686018427387904) :
    Calls Tryz.prog 92 #[.slice (some ⟨blk, off, none⟩) zs.length cap] w fun e w' =>
      e = .returned (.tuple #[]) ∧ ∃ n os, w' = grow (putRow (Value.int .i64) (Sort.ahead w n) blk off (zs.mergeSort fun x y => decide (x ≤ y)).toArray) os := Any.slices_Sort_int Tryz.lays189 blk off cap zs w hH hblk hsz
def Tryz.laysNm220_ren : Go.Shelf.Ren := ⟨fun | 20 => 93 | n => n, fun | 22 => 54 | 3 => 3 | 4 => 4 | 0 => 0 | n => n, fun | n => n⟩
theorem Tryz.laysNm220 : Go.Proofs.Lays2.n20 Tryz.prog Tryz.laysNm220_ren := {
  mixed := by kernel_rfl
  f20 := Tryz.func93.trans (congrArg some (by kernel_rfl))
  t0 := Tryz.underlying0
  a0 := Tryz.isAgg0
  z0 := Tryz.sizeOf0
  v0 := Tryz.zeroValue0
  t3 := Tryz.underlying3
  a3 := Tryz.isAgg3
  z3 := Tryz.sizeOf3
  v3 := Tryz.zeroValue3
  t4 := Tryz.underlying4
  a4 := Tryz.isAgg4
  z4 := Tryz.sizeOf4
  v4 := Tryz.zeroValue4
  t22 := Tryz.underlying54
  a22 := Tryz.isAgg54
  z22 := Tryz.sizeOf54
  v22 := Tryz.zeroValue54
  i3 := by kernel_rfl }
open Go.RowKit Go.Lib Go.Sort in
/-- slices.Compact at []int: "Compact replaces consecutive runs of equal elements with a single copy. This is like the uniq command found on Unix. Compact modifies the contents of the slice s and returns the modified slice, which may have a smaller length. Compact zeroes the elements between the new length and the original length. The result preserves the nilness of s.": IT RETURNS THE SLICE CUT TO 'Lib.compact zs'; ITS CELLS HOLD 'Lib.compact zs', THEN ZERO VALUES up to the old length; all else is as it was, but for the count of draws. IN THE WORDS OF slices.Sort's CONTRACT ('Holds', 'putRow'): so the everyday 'slices.Sort(xs); xs = slices.Compact(xs)' goes from the one contract to the other. It asks 'zs.length ≤ cap' (every slice's: the reslicing 's[:k]' looks at it). Length 0, nil: '.._empty'. (LAID: no walk: one application.) -/
theorem Tryz.slices_Compact_int (blk off cap : Nat) (zs : List Int) (w : World) (hH : Holds (Value.int .i64) w blk off zs.toArray) (hsz : zs.length ≤ 9223372036854775807) (hcap : zs.length ≤ cap) :
    Calls Tryz.prog 93 #[.slice (some ⟨blk, off, none⟩) zs.length cap] w fun e w' => e = .returned (.slice (some ⟨blk, off, none⟩) (Lib.compact zs).length cap) ∧ ∃ q, w' = putRow (Value.int .i64) (Sort.ahead w q) blk off (Lib.compact zs ++ List.replicate (zs.length - (Lib.compact zs).length) 0).toArray := Any.slices_Compact_int Tryz.laysNm220 blk off cap zs w hH hsz hcap
open Go.RowKit Go.Lib Go.Sort in
/-- The same at a slice of length 0, a nil one too: it comes back as it is. (LAID: no walk: one application.) -/
theorem Tryz.slices_Compact_int_empty (a : Option Addr) (cap : Nat) (w : World) :
    Calls Tryz.prog 93 #[.slice a 0 cap] w fun e w' => e = .returned (.slice a 0 cap) ∧ w' = w := Any.slices_Compact_int_empty Tryz.laysNm220 a cap w
open Go.RowKit Go.Sort in
/-- .. and plain. (LAID: no walk: one application.) -/
theorem Tryz.slices_Sort_int_none (p : Option Addr) (cap : Nat) (w : World) :
    Calls Tryz.prog 92 #[.slice p 0 cap] w fun e w' => e = .returned (.tuple #[]) ∧ w' = w := Any.slices_Sort_int_none Tryz.lays189 p cap w
def Tryz.sortedI_ren : Go.Shelf.Ren := ⟨fun | 6 => 94 | 8 => 124 | 9 => 92 | 11 => 160 | 13 => 104 | 12 => 123 | 23 => 140 | 24 => 141 | 14 => 151 | 15 => 152 | 16 => 153 | 17 => 154 | 18 => 155 | 19 => 156 | 20 => 157 | 21 => 158 | 22 => 159 | 25 => 170 | 26 => 164 | 27 => 165 | 28 => 171 | 29 => 172 | 30 => 142 | 31 => 176 | n => n, fun | 26 => 3 | 28 => 159 | 24 => 54 | 0 => 0 | 3 => 3 | 37 => 170 | 48 => 219 | 50 => 221 | 4 => 4 | 40 => 212 | 39 => 211 | 45 => 216 | 5 => 5 | 9 => 9 | 51 => 236 | 55 => 240 | 57 => 258 | 58 => 259 | 33 => 181 | n => n, fun | n => n⟩
theorem Tryz.sortedI : Go.Proofs.SlLaysZI.n6 Tryz.prog Tryz.sortedI_ren := {
  mixed := by kernel_rfl
  f6 := ⟨Tryz.f94.name, by decide, Tryz.func94.trans (congrArg some (by kernel_rfl))⟩
  f8 := ⟨Tryz.f124.name, by decide, Tryz.func124.trans (congrArg some (by kernel_rfl))⟩
  f11 := ⟨Tryz.f160.name, by decide, Tryz.func160.trans (congrArg some (by kernel_rfl))⟩
  t0 := Tryz.underlying0
  a0 := Tryz.isAgg0
  z0 := Tryz.sizeOf0
  v0 := Tryz.zeroValue0
  t24 := Tryz.underlying54
  a24 := Tryz.isAgg54
  z24 := Tryz.sizeOf54
  v24 := Tryz.zeroValue54
  t26 := Tryz.underlying3
  a26 := Tryz.isAgg3
  z26 := Tryz.sizeOf3
  v26 := Tryz.zeroValue3
  t28 := Tryz.underlying159
  a28 := Tryz.isAgg159
  z28 := Tryz.sizeOf159
  v28 := Tryz.zeroValue159
  i26 := by kernel_rfl }
end Go.Proofs

/- Slices of numbers: copied, compared, measured, marked, sorted, made compact. No condition. -/
namespace Go.Proofs.YtdddhnepanjmfaaGreat
open Go.RowKit
set_option linter.unusedVariables false
attribute [local go_sem] ext_cell ext_frozen ext_lt ext_le ext_le1 lt_s2 lt_s3 lt_s4 lt_s5 lt_s6 ext_lt1 ext_lt2 ext_lt3

theorem intInfo : (Tryz.prog.info? 3).map (fun i => (i.zero, i.size, i.bytes)) = some (some (.int .i64 0), 1, 8) := by kernel_rfl
theorem intEl : El Tryz.prog 54 3 (.int .i64 0) 1 8 := El.mk' intInfo Tryz.underlying54 rfl (by omega)
theorem grow_none (w : World) : Go.Sort.grow w #[] = w := by simp [Go.Sort.grow]
/-- The library's sort on a row of the call's own. -/
theorem sortInts (B : Nat) (a : Option Addr) (n cap : Nat) (zs : List Int) (w : World) (ho : w.ownsRow B 3 1 (.slice a n cap) n (ints .i64 zs)) (hn : n ≤ 1099511627776) :
    Calls Tryz.prog 92 #[.slice a n cap] w fun e w' => e = .returned (.tuple #[]) ∧ w'.ownsRow B 3 1 (.slice a n cap) n (ints .i64 (zs.mergeSort fun x y => decide (x ≤ y))) ∧ Chg (fun b => (Value.slice a n cap).ownBlock = some b) w w' := by
  have hl : zs.length = n := by have := ho.1; simpa [ints] using this
  rcases ho.2 with ⟨hv, hn0⟩ | ⟨g, cap', cur, hv, hbase, hb, h1, h2, h3, h4⟩
  · simp only [Value.slice.injEq] at hv
    obtain ⟨rfl, rfl, rfl⟩ := hv
    have hz : zs = [] := List.eq_nil_of_length_eq_zero hl
    subst hz
    refine (Tryz.slices_Sort_int_none none 0 w).mono ?_
    rintro e w' ⟨rfl, rfl⟩
    exact ⟨rfl, by simpa using ho, Chg.refl _ _⟩
  · simp only [Value.slice.injEq] at hv
    obtain ⟨rfl, _, rfl⟩ := hv
    subst hl
    rw [Nat.mul_one] at h4
    refine (Tryz.slices_Sort_int g 0 cap zs w (holds_of_blockI hb h4) (Array.getElem?_eq_some_iff.1 hb).1 (by omega)).mono ?_
    rintro e w' ⟨rfl, nn, os, rfl⟩
    refine ⟨rfl, ownsRow_sortedI (by simp) hbase hb h1 h2 h3, (Chg.of_grownBy (grownBy_sortedI _)).trans (Chg.refl _ _) (fun i _ h => ?_) (fun _ _ h => h)⟩
    simpa [Value.ownBlock] using h
/-- .. and made compact. -/
theorem compactInts (B : Nat) (a : Option Addr) (n cap : Nat) (zs : List Int) (w : World) (ho : w.ownsRow B 3 1 (.slice a n cap) n (ints .i64 zs)) (hn : n ≤ 1099511627776) :
    Calls Tryz.prog 93 #[.slice a n cap] w fun e w' => ∃ m, m = (Lib.compact zs).length ∧ e = .returned (.slice a m cap) ∧ w'.ownsRow B 3 1 (.slice a m cap) m (ints .i64 (Lib.compact zs)) ∧ Chg (fun b => (Value.slice a n cap).ownBlock = some b) w w' := by
  have hl : zs.length = n := by have := ho.1; simpa [ints] using this
  rcases ho.2 with ⟨hv, hn0⟩ | ⟨g, cap', cur, hv, hbase, hb, h1, h2, h3, h4⟩
  · simp only [Value.slice.injEq] at hv
    obtain ⟨rfl, rfl, rfl⟩ := hv
    have hz : zs = [] := List.eq_nil_of_length_eq_zero hl
    subst hz
    refine (Tryz.slices_Compact_int_empty none 0 w).mono ?_
    rintro e w' ⟨rfl, rfl⟩
    exact ⟨0, rfl, rfl, ho, Chg.refl _ _⟩
  · simp only [Value.slice.injEq] at hv
    obtain ⟨rfl, _, rfl⟩ := hv
    subst hl
    rw [Nat.mul_one] at h4
    refine (Tryz.slices_Compact_int g 0 cap zs w (holds_of_blockI hb h4) (by omega) h1).mono ?_
    rintro e w' ⟨rfl, q, rfl⟩
    have hle : (Lib.compact zs).length ≤ zs.length := Lib.compact_length_le zs
    have hw : ∀ d, Go.Sort.putRow (Value.int .i64) (Sort.ahead w q) g 0 d = Go.Sort.grow (Go.Sort.putRow (Value.int .i64) (Sort.ahead w q) g 0 d) #[] := fun d => (grow_none _).symm
    rw [hw]
    have hs := ownsRow_sortedI (w := w) (n := q) (os := #[]) (ss := zs) (ts := Lib.compact zs ++ List.replicate (zs.length - (Lib.compact zs).length) 0) (e := 3) (by simp; omega) hbase hb h1 h2 h3
    refine ⟨_, rfl, rfl, ?_, (Chg.of_grownBy (grownBy_sortedI _)).trans (Chg.refl _ _) (fun i _ h => ?_) (fun _ _ h => h)⟩
    · refine ⟨by simp [ints], .inr ?_⟩
      rcases hs.2 with ⟨hv, _⟩ | ⟨g', cap'', cur', hv, hbase', hb', k1, k2, k3, k4⟩
      · cases hv
      · simp only [Value.slice.injEq, Option.some.injEq, Addr.mk.injEq, and_true, true_and] at hv
        obtain ⟨rfl, rfl⟩ := hv
        refine ⟨g, cap, cur', rfl, hbase, hb', by omega, k2, k3, ?_⟩
        have h5 := congrArg (List.take (Lib.compact zs).length) k4
        rw [List.take_take, Nat.mul_one, Nat.min_eq_left hle] at h5
        rw [Nat.mul_one, h5, List.map_append, List.take_append_of_le_length (by simp), List.take_of_length_le (by simp)]
        rfl
    · simpa [Value.ownBlock] using h

end Go.Proofs.YtdddhnepanjmfaaGreat
/- Rows of numbers as answers: what the laws' walks use of them. No condition. -/
namespace Go.Proofs.YtdddhnepanjmfaaGreat
open Go.RowKit
set_option linter.unusedVariables false

/-- The answer: a row of numbers of the call's own. -/
def RetIs (L : List Int) (w : World) (e : Ending) (w' : World) : Prop := ∃ a c, e = .returned (.slice a L.length c) ∧ w'.ownsRow w.heap.size 3 1 (.slice a L.length c) L.length (ints .i64 L) ∧ Grew w w'
end Go.Proofs.YtdddhnepanjmfaaGreat

/- Abstract states in general: read by the program, found ok by both sides. No condition. -/
namespace Go.Proofs.YtdddhnepanjmfaaGreat
open Go.RowKit
set_option linter.unusedVariables false
set_option linter.unusedSimpArgs false
attribute [local go_sem] ext_cell ext_frozen ext_lt ext_le ext_le1 lt_s2 lt_s3 lt_s4 lt_s5 lt_s6 ext_lt1 ext_lt2 ext_lt3

/-- Whether a state is ok. -/
def stOkB (on : Bool) (xs : List Itv) (lo hi : Int) : Bool := if on then decide (xs.length = 4) && itvOkB lo hi && xs.all itvB else decide (xs.length = 0) && decide (lo = 0) && decide (hi = 0)
theorem st_four {xs : List Itv} {lo hi : Int} (h : stOkB true xs lo hi = true) : itvOkB lo hi = true ∧ ∃ x0 x1 x2 x3, xs = [x0, x1, x2, x3] ∧ itvB x0 = true ∧ itvB x1 = true ∧ itvB x2 = true ∧ itvB x3 = true := by
  simp only [stOkB, if_true, Bool.and_eq_true, decide_eq_true_eq] at h
  obtain ⟨⟨h1, h2⟩, h3⟩ := h
  match xs, h1, h3 with
  | [x0, x1, x2, x3], _, h3 =>
    simp only [List.all_cons, List.all_nil, Bool.and_true, Bool.and_eq_true] at h3
    exact ⟨h2, x0, x1, x2, x3, rfl, h3.1, h3.2.1, h3.2.2.1, h3.2.2.2⟩
theorem itvEqZ (lo hi : Int) (w : World) : (binOp .eql 98 (.agg #[.int .i64 lo, .int .i64 hi]) (.agg #[.int .i64 0, .int .i64 0])).run Tryz.prog w = .ok (.bool (decide (lo = 0) && decide (hi = 0))) w := by
  by_cases h1 : lo = 0
  · by_cases h2 : hi = 0 <;> simp [go_sem, *]
  · simp [go_sem, *]
section
attribute [local go_sem ↓] itvEqZ
set_option maxHeartbeats 2000000 in
theorem readState0 (a : Option Addr) (n c : Nat) (xs : List Itv) (lo hi : Int) (w : World) (hr : RdL EItv 2 w a n xs) :
    Calls Tryz.prog 57 #[.agg #[.bool false, .slice a n c, .int .i64 lo, .int .i64 hi]] w fun e w' => e = .returned (.tuple #[.pointer none, .bool (stOkB false xs lo hi)]) ∧ Grew w w' := by
  have hl := hr.len
  by_cases hn : n = 0
  · have HV : Hid (stOkB false xs lo hi = (decide (lo = 0) && decide (hi = 0))) := Lib.hid (by
      have : xs = [] := List.eq_nil_of_length_eq_zero (by omega)
      subst this
      simp [stOkB])
    clear hr hl
    subst hn
    go_enter Tryz.func57, Tryz.ntmps57
    go_wp2
    go_quiet (fail)
    go_wp2
    go_ret2
    rw [HV.out]
    refine ⟨rfl, ?_⟩
    exact gr
  · have HV : Hid (stOkB false xs lo hi = false) := Lib.hid (by
      rw [stOkB, if_neg (by simp), decide_eq_false (show ¬ xs.length = 0 by omega)]
      rfl)
    have hn1 : ((n : Int) == 0) = false := by simp; omega
    have hn2 : (n == 0) = false := by simp; omega
    clear hr hl
    go_enter Tryz.func57, Tryz.ntmps57
    go_wp2
    go_quiet (fail)
    go_wp2
    go_ret2
    rw [HV.out]
    refine ⟨rfl, ?_⟩
    exact gr
end
set_option maxHeartbeats 2000000 in
theorem readStateB (a : Option Addr) (n c : Nat) (xs : List Itv) (lo hi : Int) (w : World) (hr : RdL EItv 2 w a n xs) (hn : n ≤ 9223372036854775807) (hbad : stOkB true xs lo hi = false) :
    Calls Tryz.prog 57 #[.agg #[.bool true, .slice a n c, .int .i64 lo, .int .i64 hi]] w fun e w' => e = .returned (.tuple #[.pointer none, .bool false]) ∧ Grew w w' := by
  have hl := hr.len
  have C := fun w => itvOk lo hi w
  have D := fun W (h : Grew w W) => containsFuncItv a n c xs W (hr.grew staysItv h) hn
  rw [stOkB, if_pos rfl] at hbad
  obtain ⟨B1, hB1⟩ : ∃ B, itvOkB lo hi = B := ⟨_, rfl⟩
  obtain ⟨B2, hB2⟩ : ∃ B, xs.all itvB = B := ⟨_, rfl⟩
  rw [hB1] at C hbad
  rw [hB2] at D hbad
  have HC := Lib.hid C
  have HD := Lib.hid D
  clear C D hr hB1 hB2
  by_cases h4 : n = 4
  · subst h4
    have h5 : decide (xs.length = 4) = true := decide_eq_true hl
    rw [h5, Bool.true_and] at hbad
    clear h5 hl
    cases B1
    · go_enter Tryz.func57, Tryz.ntmps57
      go_wp2_with (first | ((with_reducible refine (HC.out _).mono ?_); rintro e w' ⟨rfl, g'⟩; (first | obtain ⟨y, rfl⟩ := ext_cold g' | obtain ⟨y, rfl⟩ := ext_col g' | obtain ⟨y, rfl⟩ := ext_of g'); clear g') | ((with_reducible refine (HD.out _ (gr)).mono ?_); rintro e w' ⟨rfl, g'⟩; (first | obtain ⟨z, rfl⟩ := ext_cold g' | obtain ⟨z, rfl⟩ := ext_col g' | obtain ⟨z, rfl⟩ := ext_of g'); clear g'))
      go_ret2
      refine ⟨rfl, ?_⟩
      exact gr
    · cases B2
      · go_enter Tryz.func57, Tryz.ntmps57
        go_wp2_with (first | ((with_reducible refine (HC.out _).mono ?_); rintro e w' ⟨rfl, g'⟩; (first | obtain ⟨y, rfl⟩ := ext_cold g' | obtain ⟨y, rfl⟩ := ext_col g' | obtain ⟨y, rfl⟩ := ext_of g'); clear g') | ((with_reducible refine (HD.out _ (gr)).mono ?_); rintro e w' ⟨rfl, g'⟩; (first | obtain ⟨z, rfl⟩ := ext_cold g' | obtain ⟨z, rfl⟩ := ext_col g' | obtain ⟨z, rfl⟩ := ext_of g'); clear g'))
        go_ret2
        refine ⟨rfl, ?_⟩
        exact gr
      · cases hbad
  · have hn1 : ((n : Int) != 4) = true := by simp; omega
    have hn2 : (n != 4) = true := by simp; omega
    clear hbad hl
    go_enter Tryz.func57, Tryz.ntmps57
    go_wp2
    go_ret2
    refine ⟨rfl, ?_⟩
    exact gr
/-- What a state's ten numbers are. -/
def stC (xs : List Itv) (lo hi : Int) : Array Value := (xs.flatMap Itv.cells ++ ([.int .i64 lo, .int .i64 hi] : List Value)).toArray
/-- What readState answers. -/
def RetSt (on : Bool) (xs : List Itv) (lo hi : Int) (w : World) (e : Ending) (w' : World) : Prop :=
  Grew w w' ∧ ((stOkB on xs lo hi && on) = false ∧ e = .returned (.tuple #[.pointer none, .bool (stOkB on xs lo hi)]) ∨
    (stOkB on xs lo hi && on) = true ∧ ∃ b, e = .returned (.tuple #[.pointer (some ⟨b, 0, none⟩), .bool true]) ∧ w.heap.size ≤ b ∧ Blk w' b 165 (stC xs lo hi))
theorem implReadState (on : Bool) (a : Option Addr) (n c : Nat) (xs : List Itv) (lo hi : Int) (w : World) (hr : RdL EItv 2 w a n xs) (hn : n ≤ 9223372036854775807) (hc : n ≤ c) :
    Calls Tryz.prog 57 #[.agg #[.bool on, .slice a n c, .int .i64 lo, .int .i64 hi]] w (RetSt on xs lo hi w) := by
  cases on
  · refine (readState0 a n c xs lo hi w hr).mono ?_
    rintro e w' ⟨rfl, g⟩
    exact ⟨g, .inl ⟨by simp, rfl⟩⟩
  · cases hB : stOkB true xs lo hi
    · refine (readStateB a n c xs lo hi w hr hn hB).mono ?_
      rintro e w' ⟨rfl, g⟩
      exact ⟨g, .inl ⟨by rw [hB]; rfl, by rw [hB]⟩⟩
    · obtain ⟨hi1, x0, x1, x2, x3, rfl, b0, b1, b2, b3⟩ := st_four hB
      obtain rfl : 4 = n := hr.len
      refine (readState4 a c x0 x1 x2 x3 lo hi w hr hi1 (by simp [b0, b1, b2, b3]) hc).mono ?_
      rintro e w' ⟨b, rfl, h1, h2, h3⟩
      exact ⟨h2, .inr ⟨by rw [hB]; rfl, b, rfl, h1, h3⟩⟩
end Go.Proofs.YtdddhnepanjmfaaGreat
