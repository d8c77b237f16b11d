/- The draw of a procedure: its last step is put behind. No condition. -/
import Derived.Test.YtnjoofpllhbccaaDrL
import Derived.Test.YtnjoofpllhbccaaProgTo
namespace Go.Proofs.Ytnjoofpllhbccaa
open Go.RowKit
set_option linter.unusedVariables false
set_option linter.unusedSimpArgs false
attribute [local go_sem] dg_cell dg_frozen dg_lt dg_lt1 dg_lt2 dg_ne dg_ne1 dg_ne2 dg_new dg_wen lt_s2 lt_s3 lt_s4 lt_s5 lt_s6

theorem chg_new {F : Nat → Prop} {w W : World} {p : Addr} (h : Chg F w W) (hp : w.heap.size ≤ p.block) (u : Value) : Chg F w (W.setCell p u) :=
  Chg.trans h (⟨rfl, rfl, rfl, by simp, fun k hk hn => Below.heap_setCell W p u k hn⟩ : Chg (fun b => b = p.block) W (W.setCell p u)) (fun _ _ h => h) (fun i hi e => by omega)
theorem owns_far {w : World} {base : Nat} {e : TypeId} {size n : Nat} {v : Value} {xs : List Value} (h : w.ownsRow base e size v n xs) {p : Addr} (hp : v.ownBlock ≠ some p.block) (u : Value) : (w.setCell p u).ownsRow base e size v n xs :=
  owns_chg h (⟨rfl, rfl, rfl, by simp, fun k hk hn => Below.heap_setCell w p u k hn⟩ : Chg (fun b => b = p.block) w (w.setCell p u)) (fun b hb e => hp (by rw [hb, e]))
theorem ins_one1 (i : Ins) : ∀ u ∈ i.cells, u.oneCell' = true := fun u hu => ins_one [i] u (by simpa using hu)
set_option maxRecDepth 100000 in
set_option maxHeartbeats 2000000 in
theorem endG {base n : Nat} {lo hi : Int} {v : Value} {is : List Ins} {i : Ins} {w : World} (ho : w.ownsRow base 53 8 v n (is.flatMap Ins.cells)) (hle : n ≤ 1000) (hbase : base ≤ w.heap.size) :
    Calls Try.prog 120 #[.agg #[.int .i64 lo, .int .i64 hi, v], i.v] w fun e w' => ∃ v', e = .returned (.agg #[.int .i64 lo, .int .i64 hi, v']) ∧ w'.ownsRow base 53 8 v' (n + 1) ((is ++ [i]).flatMap Ins.cells) ∧ Chg (fun b => v.ownBlock = some b) w w' := by
  obtain ⟨a, cap, rfl⟩ := owns_slice ho
  obtain ⟨op, d, ia, ib, rel, lo2, hi2, to⟩ := i
  have hlt := fun b hb => ho.lt b hb
  obtain ⟨v', w3, hrun, o3, g3, hv'⟩ := owns_append_lit (P := Try.prog) (((w.alloc (.cells #[.int .i64 lo, .int .i64 hi, .slice a n cap] 25)).alloc (.cells #[.int .i64 op, .int .i64 d, .int .i64 ia, .int .i64 ib, .int .i64 rel, .int .i64 lo2, .int .i64 hi2, .int .i64 to] 53)).alloc (.cells #[.int .i64 0, .int .i64 0, .slice none 0 0] 25)) insEl (((ho.alloc _).alloc _).alloc _) 1 (Ins.cells ⟨op, d, ia, ib, rel, lo2, hi2, to⟩) rfl (ins_one1 _) (by omega) (by omega) (by simp; omega)
  obtain ⟨a', cap', rfl⟩ := owns_slice o3
  have hc3 := Chg.of_grownBy g3
  have nb : ∀ k, w.heap.size ≤ k → ¬ (Value.slice a n cap).ownBlock = some k := fun k hk e => by have := (hlt k e).2; omega
  have B0 : Blk w3 w.heap.size 25 #[.int .i64 lo, .int .i64 hi, .slice a n cap] := (((Blk.new w _ _).alloc _).alloc _).chg hc3 (nb _ (Nat.le_refl _))
  have B2 : Blk w3 (w.heap.size + 1 + 1) 25 #[.int .i64 0, .int .i64 0, .slice none 0 0] := (by simpa only [World.size_alloc] using Blk.new ((w.alloc (.cells #[.int .i64 lo, .int .i64 hi, .slice a n cap] 25)).alloc (.cells #[.int .i64 op, .int .i64 d, .int .i64 ia, .int .i64 ib, .int .i64 rel, .int .i64 lo2, .int .i64 hi2, .int .i64 to] 53)) 25 #[.int .i64 0, .int .i64 0, .slice none 0 0] : Blk _ (w.heap.size + 1 + 1) _ _).chg hc3 (nb _ (by omega))
  have p0 : w3.cell? ⟨w.heap.size, 0, none⟩ = some (.int .i64 lo) := B0.cell 0
  have p1 : w3.cell? ⟨w.heap.size, 1, none⟩ = some (.int .i64 hi) := B0.cell 1
  have p2 : w3.cell? ⟨w.heap.size, 2, none⟩ = some (.slice a n cap) := B0.cell 2
  have z0 : w3.cell? ⟨w.heap.size + 1 + 1, 0, none⟩ = some (.int .i64 0) := B2.cell 0
  have z1 : w3.cell? ⟨w.heap.size + 1 + 1, 1, none⟩ = some (.int .i64 0) := B2.cell 1
  have z2 : w3.cell? ⟨w.heap.size + 1 + 1, 2, none⟩ = some (.slice none 0 0) := B2.cell 2
  have pf := fun j => B0.frozen j
  have zf := fun j => B2.frozen j
  have hb := hv'
  have HC : Hid (Chg (fun b => (Value.slice a n cap).ownBlock = some b) w w3) := Lib.hid (Chg.trans (Chg.of_below (F := fun _ => False) (grew_al (grew_al (grew_al (Below.refl _ w) _) _) _)) hc3 (fun _ _ h => absurd h id) (fun _ _ h => h))
  have HO := Lib.hid o3
  have hrun2 : (Builtin.append_ #[23, 23] 23 #[.slice a n cap, .slice (some ⟨w.heap.size + 1 + 1 + 1, 0, none⟩) 1 1]).run Try.prog ((((w.alloc (.cells #[.int .i64 lo, .int .i64 hi, .slice a n cap] 25)).alloc (.cells #[.int .i64 op, .int .i64 d, .int .i64 ia, .int .i64 ib, .int .i64 rel, .int .i64 lo2, .int .i64 hi2, .int .i64 to] 53)).alloc (.cells #[.int .i64 0, .int .i64 0, .slice none 0 0] 25)).alloc (.cells #[.int .i64 op, .int .i64 d, .int .i64 ia, .int .i64 ib, .int .i64 rel, .int .i64 lo2, .int .i64 hi2, .int .i64 to] 53)) = .ok (.slice a' (n + 1) cap') w3 := by simp only [World.size_alloc] at hrun; exact hrun
  have HR := Lib.hid hrun2
  have HN := Lib.hid nb
  have HV := Lib.hid hv'
  have l0 := B0.lt
  have l2 := B2.lt
  clear hrun hrun2 o3 g3 hc3 hv' hb nb hlt ho B0 B2
  go_enter Try.func120, Try.ntmps120
  go_wp2_with (at_builtin; refine wpList_append_run rfl _ _ rfl rfl rfl rfl HR.out ?_)
  have hne : ¬ w.heap.size + 1 + 1 = w.heap.size := by omega
  go_wp2
  refine bodyPost_ret (by simp [results, Try.results120, go_sem, p0, p1, p2, z0, z1, z2, l0, l2]; try rfl) rfl ?_
  have hno : ∀ k, k = w.heap.size ∨ k = w.heap.size + 1 + 1 → (Value.slice a' (n + 1) cap').ownBlock ≠ some k := by
    intro k hk e
    rcases HV.out with h | h
    · rw [h] at e
      exact HN.out k (by omega) e
    · rw [h] at e
      simp only [World.size_alloc, Option.some.injEq] at e
      omega
  refine ⟨_, rfl, ?_, ?_⟩
  · rw [List.flatMap_append, List.flatMap_cons, List.flatMap_nil, List.append_nil]
    exact owns_far (owns_far (owns_far (owns_far HO.out (hno _ (.inl rfl)) _) (hno _ (.inr rfl)) _) (hno _ (.inr rfl)) _) (hno _ (.inr rfl)) _
  · exact chg_new (chg_new (chg_new (chg_new HC.out (Nat.le_refl _) _) (by simp only; omega) _) (by simp only; omega) _) (by simp only; omega) _
end Go.Proofs.Ytnjoofpllhbccaa
