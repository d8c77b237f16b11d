/- Lemmas and walks of this proof, some texts one behind the other. No condition. -/
import Derived.Test.YtnjoofpllhbccaaGreatMarks
import Derived.Test.YtnjoofpllhbccaaGreatShelf
import Derived.Sort.OwnSortedInts
import Derived.Lib.RowBridge
set_option linter.unusedSimpArgs false
set_option linter.unusedVariables false
/- Slices of numbers: copied, compared, measured, marked, sorted, made compact. No condition. -/
namespace Go.Proofs.YtnjoofpllhbccaaGreat
open Go.RowKit
set_option linter.unusedVariables false
attribute [local go_sem] ext_cell ext_frozen ext_lt ext_le ext_le1 lt_s2 lt_s3 lt_s4 lt_s5 lt_s6 ext_lt1 ext_lt2 ext_lt3

theorem intInfo : (Tryz.prog.info? 3).map (fun i => (i.zero, i.size, i.bytes)) = some (some (.int .i64 0), 1, 8) := by kernel_rfl
theorem intEl : El Tryz.prog 28 3 (.int .i64 0) 1 8 := El.mk' intInfo Tryz.underlying28 rfl (by omega)
theorem int_one (zs : List Int) : ∀ u ∈ ints .i64 zs, u.oneCell' = true := by
  intro u hu
  obtain ⟨x, _, rfl⟩ := List.mem_map.1 hu
  rfl








theorem grow_none (w : World) : Go.Sort.grow w #[] = w := by simp [Go.Sort.grow]
/-- The library's sort on a row of the call's own. -/
theorem sortInts (B : Nat) (a : Option Addr) (n cap : Nat) (zs : List Int) (w : World) (ho : w.ownsRow B 3 1 (.slice a n cap) n (ints .i64 zs)) (hn : n ≤ 1099511627776) :
    Calls Tryz.prog 63 #[.slice a n cap] w fun e w' => e = .returned (.tuple #[]) ∧ w'.ownsRow B 3 1 (.slice a n cap) n (ints .i64 (zs.mergeSort fun x y => decide (x ≤ y))) ∧ Chg (fun b => (Value.slice a n cap).ownBlock = some b) w w' := by
  have hl : zs.length = n := by have := ho.1; simpa [ints] using this
  rcases ho.2 with ⟨hv, hn0⟩ | ⟨g, cap', cur, hv, hbase, hb, h1, h2, h3, h4⟩
  · simp only [Value.slice.injEq] at hv
    obtain ⟨rfl, rfl, rfl⟩ := hv
    have hz : zs = [] := List.eq_nil_of_length_eq_zero hl
    subst hz
    refine (Tryz.slices_Sort_int_none none 0 w).mono ?_
    rintro e w' ⟨rfl, rfl⟩
    exact ⟨rfl, by simpa using ho, Chg.refl _ _⟩
  · simp only [Value.slice.injEq] at hv
    obtain ⟨rfl, _, rfl⟩ := hv
    subst hl
    rw [Nat.mul_one] at h4
    refine (Tryz.slices_Sort_int g 0 cap zs w (holds_of_blockI hb h4) (Array.getElem?_eq_some_iff.1 hb).1 (by omega)).mono ?_
    rintro e w' ⟨rfl, nn, os, rfl⟩
    refine ⟨rfl, ownsRow_sortedI (by simp) hbase hb h1 h2 h3, (Chg.of_grownBy (grownBy_sortedI _)).trans (Chg.refl _ _) (fun i _ h => ?_) (fun _ _ h => h)⟩
    simpa [Value.ownBlock] using h
/-- .. and made compact. -/
theorem compactInts (B : Nat) (a : Option Addr) (n cap : Nat) (zs : List Int) (w : World) (ho : w.ownsRow B 3 1 (.slice a n cap) n (ints .i64 zs)) (hn : n ≤ 1099511627776) :
    Calls Tryz.prog 64 #[.slice a n cap] w fun e w' => ∃ m, m = (Lib.compact zs).length ∧ e = .returned (.slice a m cap) ∧ w'.ownsRow B 3 1 (.slice a m cap) m (ints .i64 (Lib.compact zs)) ∧ Chg (fun b => (Value.slice a n cap).ownBlock = some b) w w' := by
  have hl : zs.length = n := by have := ho.1; simpa [ints] using this
  rcases ho.2 with ⟨hv, hn0⟩ | ⟨g, cap', cur, hv, hbase, hb, h1, h2, h3, h4⟩
  · simp only [Value.slice.injEq] at hv
    obtain ⟨rfl, rfl, rfl⟩ := hv
    have hz : zs = [] := List.eq_nil_of_length_eq_zero hl
    subst hz
    refine (Tryz.slices_Compact_int_empty none 0 w).mono ?_
    rintro e w' ⟨rfl, rfl⟩
    exact ⟨0, rfl, rfl, ho, Chg.refl _ _⟩
  · simp only [Value.slice.injEq] at hv
    obtain ⟨rfl, _, rfl⟩ := hv
    subst hl
    rw [Nat.mul_one] at h4
    refine (Tryz.slices_Compact_int g 0 cap zs w (holds_of_blockI hb h4) (by omega) h1).mono ?_
    rintro e w' ⟨rfl, q, rfl⟩
    have hle : (Lib.compact zs).length ≤ zs.length := Lib.compact_length_le zs
    have hw : ∀ d, Go.Sort.putRow (Value.int .i64) (Sort.ahead w q) g 0 d = Go.Sort.grow (Go.Sort.putRow (Value.int .i64) (Sort.ahead w q) g 0 d) #[] := fun d => (grow_none _).symm
    rw [hw]
    have hs := ownsRow_sortedI (w := w) (n := q) (os := #[]) (ss := zs) (ts := Lib.compact zs ++ List.replicate (zs.length - (Lib.compact zs).length) 0) (e := 3) (by simp; omega) hbase hb h1 h2 h3
    refine ⟨_, rfl, rfl, ?_, (Chg.of_grownBy (grownBy_sortedI _)).trans (Chg.refl _ _) (fun i _ h => ?_) (fun _ _ h => h)⟩
    · refine ⟨by simp [ints], .inr ?_⟩
      rcases hs.2 with ⟨hv, _⟩ | ⟨g', cap'', cur', hv, hbase', hb', k1, k2, k3, k4⟩
      · cases hv
      · simp only [Value.slice.injEq, Option.some.injEq, Addr.mk.injEq, and_true, true_and] at hv
        obtain ⟨rfl, rfl⟩ := hv
        refine ⟨g, cap, cur', rfl, hbase, hb', by omega, k2, k3, ?_⟩
        have h5 := congrArg (List.take (Lib.compact zs).length) k4
        rw [List.take_take, Nat.mul_one, Nat.min_eq_left hle] at h5
        rw [Nat.mul_one, h5, List.map_append, List.take_append_of_le_length (by simp), List.take_of_length_le (by simp)]
        rfl
    · simpa [Value.ownBlock] using h

end Go.Proofs.YtnjoofpllhbccaaGreat
/- Rows of numbers as answers: what the laws' walks use of them. No condition. -/
namespace Go.Proofs.YtnjoofpllhbccaaGreat
open Go.RowKit
set_option linter.unusedVariables false

/-- The answer: a row of numbers of the call's own. -/
def RetIs (L : List Int) (w : World) (e : Ending) (w' : World) : Prop := ∃ a c, e = .returned (.slice a L.length c) ∧ w'.ownsRow w.heap.size 3 1 (.slice a L.length c) L.length (ints .i64 L) ∧ Grew w w'
theorem retIs_of {P : Program} {f : FuncId} {args : Array Value} {w : World} {L S : List Int} (h : Calls P f args w fun e w' => RetIs L w e w') (hS : L = S) : Calls P f args w fun e w' => RetIs S w e w' := hS ▸ h
end Go.Proofs.YtnjoofpllhbccaaGreat
