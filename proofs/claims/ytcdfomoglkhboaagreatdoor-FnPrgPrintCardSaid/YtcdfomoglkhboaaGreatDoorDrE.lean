/- Lemmas and walks of this proof, some texts one behind the other. No condition. -/
import Derived.Test.YtcdfomoglkhboaaGreatDoorDrR
import Derived.Test.YtcdfomoglkhboaaGreatDoorDrL
set_option linter.unusedSimpArgs false
set_option linter.unusedVariables false
/- Programs copied into new memory: what the copies own. No condition. -/
namespace Go.Proofs.YtcdfomoglkhboaaGreatDoor
open Go.RowKit
set_option linter.unusedVariables false
attribute [local go_sem] ext_cell ext_frozen ext_lt ext_le ext_le1 lt_s2 lt_s3 lt_s4 lt_s5 lt_s6 ext_lt1 ext_lt2 ext_lt3

/-- Cells stored one behind the other. -/
def setCs (w : World) (g : Nat) : Nat → List Value → World
  | _, [] => w
  | o, c :: cs => setCs (w.setCell ⟨g, o, none⟩ c) g (o + 1) cs
def sets (ys : List Value) : Nat → List Value → List Value
  | _, [] => ys
  | o, c :: cs => sets (ys.set o c) (o + 1) cs
theorem own_sets {base : Nat} {e : TypeId} {size n cap g : Nat} : ∀ (cs : List Value) (w : World) (xs : List Value) (o : Nat), w.ownsRow base e size (.slice (some ⟨g, 0, none⟩) n cap) n xs →
    (setCs w g o cs).ownsRow base e size (.slice (some ⟨g, 0, none⟩) n cap) n (sets xs o cs) ∧ w.grownBy (setCs w g o cs) (some g)
  | [], w, xs, o, h => ⟨h, World.grownBy.refl w _⟩
  | c :: cs, w, xs, o, h => by
    obtain ⟨h1, h2⟩ := h.stored o c
    obtain ⟨h3, h4⟩ := own_sets cs _ _ (o + 1) h1
    exact ⟨h3, grownBy_trans h2 h4⟩
theorem ins_len (i : Ins) : i.cells.length = 8 := rfl
theorem ins_one (is : List Ins) : ∀ u ∈ is.flatMap Ins.cells, u.oneCell' = true := by
  intro u hu
  obtain ⟨i, _, hi⟩ := List.mem_flatMap.1 hu
  simp only [Ins.cells, List.mem_cons, List.not_mem_nil, or_false] at hi
  rcases hi with rfl | rfl | rfl | rfl | rfl | rfl | rfl | rfl <;> rfl
/-- One instruction of a slice that is read. -/
theorem rdI_at {w : World} {a : Option Addr} {n : Nat} {is : List Ins} (h : RdL EIns 8 w a n is) {k : Nat} (hk : k < n) : ∃ b off op d ia ib rel lo hi to, a = some ⟨b, off, none⟩ ∧ is[k]? = some ⟨op, d, ia, ib, rel, lo, hi, to⟩ ∧
    w.cell? ⟨b, off + k * 8, none⟩ = some (.int .i64 op) ∧ w.cell? ⟨b, off + k * 8 + 1, none⟩ = some (.int .i64 d) ∧ w.cell? ⟨b, off + k * 8 + 2, none⟩ = some (.int .i64 ia) ∧ w.cell? ⟨b, off + k * 8 + 3, none⟩ = some (.int .i64 ib) ∧
    w.cell? ⟨b, off + k * 8 + 4, none⟩ = some (.int .i64 rel) ∧ w.cell? ⟨b, off + k * 8 + 5, none⟩ = some (.int .i64 lo) ∧ w.cell? ⟨b, off + k * 8 + 6, none⟩ = some (.int .i64 hi) ∧ w.cell? ⟨b, off + k * 8 + 7, none⟩ = some (.int .i64 to) ∧ b < w.heap.size := by
  obtain ⟨b, off, ⟨op, d, ia, ib, rel, lo, hi, to⟩, cs, rfl, hx, _, hc, rfl⟩ := h.at_ hk
  exact ⟨b, off, op, d, ia, ib, rel, lo, hi, to, rfl, hx, hc 0 _ rfl, hc 1 _ rfl, hc 2 _ rfl, hc 3 _ rfl, hc 4 _ rfl, hc 5 _ rfl, hc 6 _ rfl, hc 7 _ rfl, h.lt (by omega) rfl⟩
/-- One procedure of a slice that is read. -/
theorem rdP_at {w : World} {a : Option Addr} {n : Nat} {ps : List Prc} (h : RdP w a n ps) {k : Nat} (hk : k < n) : ∃ b off lo hi is ia ic, a = some ⟨b, off, none⟩ ∧ ps[k]? = some ⟨lo, hi, is⟩ ∧
    w.cell? ⟨b, off + k * 3, none⟩ = some (.int .i64 lo) ∧ w.cell? ⟨b, off + k * 3 + 1, none⟩ = some (.int .i64 hi) ∧ w.cell? ⟨b, off + k * 3 + 2, none⟩ = some (.slice ia is.length ic) ∧ b < w.heap.size ∧
    RdL EIns 8 w ia is.length is ∧ is.length ≤ ic ∧ ic ≤ maxLen := by
  obtain ⟨b, off, ⟨lo, hi, is⟩, cs, rfl, hx, _, hc, ⟨ia, ic, rfl, h1, h2, h3⟩⟩ := h.at_ hk
  exact ⟨b, off, lo, hi, is, ia, ic, rfl, hx, hc 0 _ rfl, hc 1 _ rfl, hc 2 _ rfl, h.lt (by omega) rfl, h1, h2, h3⟩

theorem insInfo : (Tryz.prog.info? 38).map (fun i => (i.zero, i.size, i.bytes)) = some (some (.agg #[.int .i64 0, .int .i64 0, .int .i64 0, .int .i64 0, .int .i64 0, .int .i64 0, .int .i64 0, .int .i64 0]), 8, 64) := by kernel_rfl
theorem insEl : El Tryz.prog 54 38 (.agg #[.int .i64 0, .int .i64 0, .int .i64 0, .int .i64 0, .int .i64 0, .int .i64 0, .int .i64 0, .int .i64 0]) 8 64 := El.mk' insInfo Tryz.underlying54 rfl (by omega)

/-- What a copied program owns: a row of procedures, and for each its row of instructions. -/
def prcCells (m : Prc × Value) : List Value := [.int .i64 m.1.lo, .int .i64 m.1.hi, m.2]
theorem prc_len (m : Prc × Value) : (prcCells m).length = 3 := rfl
def OwnP (w : World) (B : Nat) (v : Value) (n : Nat) (ms : List (Prc × Value)) : Prop :=
  ms.length = n ∧ w.ownsRow B 56 3 v n (ms.flatMap prcCells) ∧ ∀ m, m ∈ ms → w.ownsRow B 38 8 m.2 m.1.code.length (m.1.code.flatMap Ins.cells)

theorem rdI_of_own {w : World} {B n cap : Nat} {a : Option Addr} {is : List Ins} (hn : is.length = n) (h : w.ownsRow B 38 8 (.slice a n cap) n (is.flatMap Ins.cells)) : RdL EIns 8 w a n is :=
  rdl_of_rd Ins.cells (by omega) ins_len hn (owns_rd h) (fun x _ => rfl)
theorem OwnP.rd {w : World} {B n cap : Nat} {a : Option Addr} {ms : List (Prc × Value)} (h : OwnP w B (.slice a n cap) n ms) : RdP w a n (ms.map (·.1)) := by
  obtain ⟨hn, h1, h2⟩ := h
  have h3 := rdl_of_rd (E := fun w cs (m : Prc × Value) => EPrc w cs m.1) prcCells (by omega) prc_len hn (owns_rd h1) (fun m hm => by
    obtain ⟨a', c', hv⟩ := owns_slice (h2 m hm)
    have h4 := h2 m hm
    rw [hv] at h4
    exact ⟨a', c', by rw [prcCells, hv], rdI_of_own rfl h4, owns_cap h4⟩)
  refine ⟨by rw [List.length_map]; exact hn, ?_⟩
  rcases h3.2 with h0 | ⟨b, off, e, hc⟩
  · exact .inl h0
  · refine .inr ⟨b, off, e, fun k p hp => ?_⟩
    rw [List.getElem?_map, Option.map_eq_some_iff] at hp
    obtain ⟨m, hm, rfl⟩ := hp
    exact hc k m hm
theorem OwnP.chg {F : Nat → Prop} {w w' : World} {B n : Nat} {v : Value} {ms : List (Prc × Value)} (h : OwnP w B v n ms) (hc : Chg F w w') (hF : ∀ b, B ≤ b → b < w.heap.size → ¬ F b) : OwnP w' B v n ms :=
  ⟨h.1, owns_chg h.2.1 hc (fun b hb => hF b (h.2.1.lt b hb).1 (h.2.1.lt b hb).2), fun m hm => owns_chg (h.2.2 m hm) hc (fun b hb => hF b ((h.2.2 m hm).lt b hb).1 ((h.2.2 m hm).lt b hb).2)⟩
theorem OwnP.grew {w w' : World} {B n : Nat} {v : Value} {ms : List (Prc × Value)} (h : OwnP w B v n ms) (hc : Grew w w') : OwnP w' B v n ms :=
  h.chg (Chg.of_below (F := fun _ => False) hc) (fun _ _ _ hf => hf)

theorem prcInfo : (Tryz.prog.info? 56).map (fun i => (i.zero, i.size, i.bytes)) = some (some (.agg #[.int .i64 0, .int .i64 0, .slice none 0 0]), 3, 40) := by kernel_rfl
theorem prcEl : El Tryz.prog 23 56 (.agg #[.int .i64 0, .int .i64 0, .slice none 0 0]) 3 40 := El.mk' prcInfo Tryz.underlying23 rfl (by omega)

end Go.Proofs.YtcdfomoglkhboaaGreatDoor

/- The draw of a procedure: its last step is put behind. No condition. -/
namespace Go.Proofs.YtcdfomoglkhboaaGreatDoor
open Go.RowKit
set_option linter.unusedVariables false
set_option linter.unusedSimpArgs false
attribute [local go_sem] dg_cell dg_frozen dg_lt dg_lt1 dg_lt2 dg_ne dg_ne1 dg_ne2 dg_new dg_wen lt_s2 lt_s3 lt_s4 lt_s5 lt_s6

theorem chg_new {F : Nat → Prop} {w W : World} {p : Addr} (h : Chg F w W) (hp : w.heap.size ≤ p.block) (u : Value) : Chg F w (W.setCell p u) :=
  Chg.trans h (⟨rfl, rfl, rfl, by simp, fun k hk hn => Below.heap_setCell W p u k hn⟩ : Chg (fun b => b = p.block) W (W.setCell p u)) (fun _ _ h => h) (fun i hi e => by omega)
theorem owns_far {w : World} {base : Nat} {e : TypeId} {size n : Nat} {v : Value} {xs : List Value} (h : w.ownsRow base e size v n xs) {p : Addr} (hp : v.ownBlock ≠ some p.block) (u : Value) : (w.setCell p u).ownsRow base e size v n xs :=
  owns_chg h (⟨rfl, rfl, rfl, by simp, fun k hk hn => Below.heap_setCell w p u k hn⟩ : Chg (fun b => b = p.block) w (w.setCell p u)) (fun b hb e => hp (by rw [hb, e]))
theorem ins_one1 (i : Ins) : ∀ u ∈ i.cells, u.oneCell' = true := fun u hu => ins_one [i] u (by simpa using hu)
set_option maxRecDepth 100000 in
set_option maxHeartbeats 2000000 in
theorem endG {base n : Nat} {lo hi : Int} {v : Value} {is : List Ins} {i : Ins} {w : World} (ho : w.ownsRow base 38 8 v n (is.flatMap Ins.cells)) (hle : n ≤ 1000) (hbase : base ≤ w.heap.size) :
    Calls Tryz.prog 133 #[.agg #[.int .i64 lo, .int .i64 hi, v], i.v] w fun e w' => ∃ v', e = .returned (.agg #[.int .i64 lo, .int .i64 hi, v']) ∧ w'.ownsRow base 38 8 v' (n + 1) ((is ++ [i]).flatMap Ins.cells) ∧ Chg (fun b => v.ownBlock = some b) w w' := by
  obtain ⟨a, cap, rfl⟩ := owns_slice ho
  obtain ⟨op, d, ia, ib, rel, lo2, hi2, to⟩ := i
  have hlt := fun b hb => ho.lt b hb
  obtain ⟨v', w3, hrun, o3, g3, hv'⟩ := owns_append_lit (P := Tryz.prog) (((w.alloc (.cells #[.int .i64 lo, .int .i64 hi, .slice a n cap] 56)).alloc (.cells #[.int .i64 op, .int .i64 d, .int .i64 ia, .int .i64 ib, .int .i64 rel, .int .i64 lo2, .int .i64 hi2, .int .i64 to] 38)).alloc (.cells #[.int .i64 0, .int .i64 0, .slice none 0 0] 56)) insEl (((ho.alloc _).alloc _).alloc _) 1 (Ins.cells ⟨op, d, ia, ib, rel, lo2, hi2, to⟩) rfl (ins_one1 _) (by omega) (by omega) (by simp; omega)
  obtain ⟨a', cap', rfl⟩ := owns_slice o3
  have hc3 := Chg.of_grownBy g3
  have nb : ∀ k, w.heap.size ≤ k → ¬ (Value.slice a n cap).ownBlock = some k := fun k hk e => by have := (hlt k e).2; omega
  have B0 : Blk w3 w.heap.size 56 #[.int .i64 lo, .int .i64 hi, .slice a n cap] := (((Blk.new w _ _).alloc _).alloc _).chg hc3 (nb _ (Nat.le_refl _))
  have B2 : Blk w3 (w.heap.size + 1 + 1) 56 #[.int .i64 0, .int .i64 0, .slice none 0 0] := (by simpa only [World.size_alloc] using Blk.new ((w.alloc (.cells #[.int .i64 lo, .int .i64 hi, .slice a n cap] 56)).alloc (.cells #[.int .i64 op, .int .i64 d, .int .i64 ia, .int .i64 ib, .int .i64 rel, .int .i64 lo2, .int .i64 hi2, .int .i64 to] 38)) 56 #[.int .i64 0, .int .i64 0, .slice none 0 0] : Blk _ (w.heap.size + 1 + 1) _ _).chg hc3 (nb _ (by omega))
  have p0 : w3.cell? ⟨w.heap.size, 0, none⟩ = some (.int .i64 lo) := B0.cell 0
  have p1 : w3.cell? ⟨w.heap.size, 1, none⟩ = some (.int .i64 hi) := B0.cell 1
  have p2 : w3.cell? ⟨w.heap.size, 2, none⟩ = some (.slice a n cap) := B0.cell 2
  have z0 : w3.cell? ⟨w.heap.size + 1 + 1, 0, none⟩ = some (.int .i64 0) := B2.cell 0
  have z1 : w3.cell? ⟨w.heap.size + 1 + 1, 1, none⟩ = some (.int .i64 0) := B2.cell 1
  have z2 : w3.cell? ⟨w.heap.size + 1 + 1, 2, none⟩ = some (.slice none 0 0) := B2.cell 2
  have pf := fun j => B0.frozen j
  have zf := fun j => B2.frozen j
  have hb := hv'
  have HC : Hid (Chg (fun b => (Value.slice a n cap).ownBlock = some b) w w3) := Lib.hid (Chg.trans (Chg.of_below (F := fun _ => False) (grew_al (grew_al (grew_al (Below.refl _ w) _) _) _)) hc3 (fun _ _ h => absurd h id) (fun _ _ h => h))
  have HO := Lib.hid o3
  have hrun2 : (Builtin.append_ #[54, 54] 54 #[.slice a n cap, .slice (some ⟨w.heap.size + 1 + 1 + 1, 0, none⟩) 1 1]).run Tryz.prog ((((w.alloc (.cells #[.int .i64 lo, .int .i64 hi, .slice a n cap] 56)).alloc (.cells #[.int .i64 op, .int .i64 d, .int .i64 ia, .int .i64 ib, .int .i64 rel, .int .i64 lo2, .int .i64 hi2, .int .i64 to] 38)).alloc (.cells #[.int .i64 0, .int .i64 0, .slice none 0 0] 56)).alloc (.cells #[.int .i64 op, .int .i64 d, .int .i64 ia, .int .i64 ib, .int .i64 rel, .int .i64 lo2, .int .i64 hi2, .int .i64 to] 38)) = .ok (.slice a' (n + 1) cap') w3 := by simp only [World.size_alloc] at hrun; exact hrun
  have HR := Lib.hid hrun2
  have HN := Lib.hid nb
  have HV := Lib.hid hv'
  have l0 := B0.lt
  have l2 := B2.lt
  clear hrun hrun2 o3 g3 hc3 hv' hb nb hlt ho B0 B2
  go_enter Tryz.func133, Tryz.ntmps133
  go_wp2_with (at_builtin; refine wpList_append_run rfl _ _ rfl rfl rfl rfl HR.out ?_)
  have hne : ¬ w.heap.size + 1 + 1 = w.heap.size := by omega
  go_wp2
  refine bodyPost_ret (by simp [results, Tryz.results133, go_sem, p0, p1, p2, z0, z1, z2, l0, l2]; try rfl) rfl ?_
  have hno : ∀ k, k = w.heap.size ∨ k = w.heap.size + 1 + 1 → (Value.slice a' (n + 1) cap').ownBlock ≠ some k := by
    intro k hk e
    rcases HV.out with h | h
    · rw [h] at e
      exact HN.out k (by omega) e
    · rw [h] at e
      simp only [World.size_alloc, Option.some.injEq] at e
      omega
  refine ⟨_, rfl, ?_, ?_⟩
  · rw [List.flatMap_append, List.flatMap_cons, List.flatMap_nil, List.append_nil]
    exact owns_far (owns_far (owns_far (owns_far HO.out (hno _ (.inl rfl)) _) (hno _ (.inr rfl)) _) (hno _ (.inr rfl)) _) (hno _ (.inr rfl)) _
  · exact chg_new (chg_new (chg_new (chg_new HC.out (Nat.le_refl _) _) (by simp only; omega) _) (by simp only; omega) _) (by simp only; omega) _
end Go.Proofs.YtcdfomoglkhboaaGreatDoor
