/- The draw of a program, one in so many with something wrong. No condition. -/
import Derived.Test.YtcdfomoglkhboaaGreatDoorDrV
import Derived.Test.YtcdfomoglkhboaaGreatDoorDrO
namespace Go.Proofs.YtcdfomoglkhboaaGreatDoor
open Go.RowKit
set_option linter.unusedVariables false
set_option linter.unusedSimpArgs false
attribute [local go_sem] dg_cell dg_frozen dg_lt dg_lt1 dg_lt2 dg_ne dg_ne1 dg_ne2 dg_new dg_wen lt_s2 lt_s3 lt_s4 lt_s5 lt_s6

/-- A program in memory of its own was drawn, perhaps with something wrong. -/
def RetPrgO (g P base : Nat) (w : World) (e : Ending) (w' : World) : Prop :=
  ∃ (v : Value) (n : Nat) (ms : List (Prc × Value)), e = .returned (.agg #[v]) ∧ OwnP w' base v n ms ∧ n ≤ 5 ∧ (∀ m, m ∈ ms → m.1.code.length ≤ 12) ∧ RdLe w' g P ∧ ChgG g w w'
theorem sets_behind : ∀ (cs l r : List Value) (j : Nat), sets (l ++ r) (l.length + j) cs = l ++ sets r j cs
  | [], _, _, _ => rfl
  | c :: cs, l, r, j => by
    rw [sets, sets, List.set_append_right _ _ (by omega), show l.length + j - l.length = j from by omega, Nat.add_assoc, sets_behind cs l (r.set j c) (j + 1)]
theorem sets_row (m : Prc × Value) : ∀ (ms : List (Prc × Value)) (u : Nat), u < ms.length → sets (ms.flatMap prcCells) (u * 3) (prcCells m) = (ms.set u m).flatMap prcCells
  | [], u, h => by simp at h
  | x :: ms, 0, _ => by
    obtain ⟨⟨x0, x1, x2⟩, x3⟩ := x
    simp [prcCells, sets]
  | x :: ms, u + 1, h => by
    have ih := sets_row m ms u (by simpa using h)
    have hb := sets_behind (prcCells m) (prcCells x) (ms.flatMap prcCells) (u * 3)
    rw [prc_len] at hb
    rw [List.flatMap_cons, List.set_cons_succ, List.flatMap_cons, ← ih, ← hb]
    congr 1
    omega
theorem own_shape {w : World} {B n cap size : Nat} {e : TypeId} {a : Option Addr} {xs : List Value} (h : w.ownsRow B e size (.slice a n cap) n xs) (hn : 0 < n) : ∃ b, a = some ⟨b, 0, none⟩ := by
  rcases h.2 with ⟨e1, _⟩ | ⟨g', cap', cur, e1, _⟩
  · simp only [Value.slice.injEq] at e1
    omega
  · simp only [Value.slice.injEq] at e1
    exact ⟨_, e1.1⟩
theorem OwnP.mono {w : World} {B B' n : Nat} {v : Value} {ms : List (Prc × Value)} (h : OwnP w B v n ms) (hB : B' ≤ B) : OwnP w B' v n ms := ⟨h.1, owns_mono h.2.1 hB, fun m hm => owns_mono (h.2.2 m hm) hB⟩
theorem OwnP.far {w : World} {B n g : Nat} {t : TypeId} {cs : Array Value} {v : Value} {ms : List (Prc × Value)} (h : OwnP w B v n ms) (hb : Blk w g t cs) (h1 : t ≠ 56) (h2 : t ≠ 38) (o : Nat) (u : Value) : OwnP (w.setCell ⟨g, o, none⟩ u) B v n ms :=
  ⟨h.1, owns_far h.2.1 (blk_ne hb h.2.1 h1) _, fun m hm => owns_far (h.2.2 m hm) (blk_ne hb (h.2.2 m hm) h2) _⟩
/-- A block of another type is none that a row stores to. -/
theorem blk_row {w : World} {B n cap g br size : Nat} {t e : TypeId} {cs : Array Value} {xs : List Value} (hb : Blk w g t cs) (h : w.ownsRow B e size (.slice (some ⟨br, 0, none⟩) n cap) n xs) (hne : t ≠ e) : g ≠ br := fun e2 => blk_ne hb h hne (by rw [e2]; rfl)
theorem OwnP.set3 {w : World} {B n cap br u : Nat} {lo hi : Int} {v : Value} {is : List Ins} {ms : List (Prc × Value)} (h : OwnP w B (.slice (some ⟨br, 0, none⟩) n cap) n ms) (hu : u < n) (ho : w.ownsRow B 38 8 v is.length (is.flatMap Ins.cells)) :
    OwnP (((w.setCell ⟨br, u * 3, none⟩ (.int .i64 lo)).setCell ⟨br, u * 3 + 1, none⟩ (.int .i64 hi)).setCell ⟨br, u * 3 + 2, none⟩ v) B (.slice (some ⟨br, 0, none⟩) n cap) n (ms.set u (⟨lo, hi, is⟩, v)) := by
  obtain ⟨h1, h2, h3⟩ := h
  obtain ⟨h4, h5⟩ := own_sets (prcCells (⟨lo, hi, is⟩, v)) w _ (u * 3) h2
  rw [sets_row _ _ _ (by omega)] at h4
  have hX : ∀ (x : Value) (N : Nat) (xs : List Value), w.ownsRow B 38 8 x N xs → (setCs w br (u * 3) (prcCells (⟨lo, hi, is⟩, v))).ownsRow B 38 8 x N xs := fun x N xs hx => owns_chg hx (Chg.of_grownBy h5) (fun b hb e => row_row_ne hx h2 (by decide) hb (by simpa [Value.ownBlock] using e))
  refine ⟨by rw [List.length_set]; exact h1, h4, fun m hm => ?_⟩
  rcases List.mem_or_eq_of_mem_set hm with hm | rfl
  · exact hX _ _ _ (h3 m hm)
  · exact hX _ _ _ ho
theorem cellR {w : World} {B n cap br : Nat} {ms : List (Prc × Value)} (h : OwnP w B (.slice (some ⟨br, 0, none⟩) n cap) n ms) {u : Nat} (hu : u < n) : ∃ m, ms[u]? = some m ∧ w.cell? ⟨br, u * 3, none⟩ = some (.int .i64 m.1.lo) ∧ w.cell? ⟨br, u * 3 + 1, none⟩ = some (.int .i64 m.1.hi) ∧ w.cell? ⟨br, u * 3 + 2, none⟩ = some m.2 := by
  obtain ⟨h1, h2, h3⟩ := h
  have hm : ms[u]? = some (ms[u]'(by omega)) := List.getElem?_eq_getElem (by omega)
  have hl := h2.1
  refine ⟨_, hm, ?_, ?_, ?_⟩
  · have := flat_get prcCells 3 prc_len ms u _ 0 _ hm rfl
    rw [Nat.add_zero] at this
    rw [h2.cellAt _ (by omega)]
    exact this
  · rw [h2.cellAt _ (by omega)]
    exact flat_get prcCells 3 prc_len ms u _ 1 _ hm rfl
  · rw [h2.cellAt _ (by omega)]
    exact flat_get prcCells 3 prc_len ms u _ 2 _ hm rfl

section
variable {ops : Array Oper} {Q : Exit → Act → World → Prop} {a0 : Act} {g PP : Nat} {c : Nat → Nat} {J J' : World → Prop} {F : Nat → Prop} {R : Nat → World → Value → Prop} {i : Nat} {o : Oper}
theorem ds_loadK (bc n cap at_ : Nat) (d1 k1 : Nat) (hop : o.op = .load 38 (.tmp d1)) (h1 : Dep ops o k1 d1) (hs1 : ∀ W v, R k1 W v → v = .pointer (some ⟨bc, at_, none⟩)) (hat : at_ + 8 ≤ n * 8) (hJ : ∀ W, J W → CodeB bc n cap W) (hR : ∀ W v, IsIns v → R i W v) : DStep Tryz.prog ops Q a0 g PP c J F R i o := by
  intro a w p hp hJ1 hr hf hd
  have e1 := hs1 _ _ (dep_of h1 hd)
  have hk := hJ w hJ1
  obtain ⟨x0, c0⟩ := hk.get (i := at_) (by omega)
  obtain ⟨x1, c1⟩ := hk.get (i := at_ + 1) (by omega)
  obtain ⟨x2, c2⟩ := hk.get (i := at_ + 2) (by omega)
  obtain ⟨x3, c3⟩ := hk.get (i := at_ + 3) (by omega)
  obtain ⟨x4, c4⟩ := hk.get (i := at_ + 4) (by omega)
  obtain ⟨x5, c5⟩ := hk.get (i := at_ + 5) (by omega)
  obtain ⟨x6, c6⟩ := hk.get (i := at_ + 6) (by omega)
  obtain ⟨x7, c7⟩ := hk.get (i := at_ + 7) (by omega)
  refine op_val (v := .agg #[.int .i64 x0, .int .i64 x1, .int .i64 x2, .int .i64 x3, .int .i64 x4, .int .i64 x5, .int .i64 x6, .int .i64 x7]) (w' := w) ?_ ⟨_, rfl, hR _ _ ⟨_, _, _, _, _, _, _, _, rfl⟩, hJ1, hr.mono (by omega), Chg.refl _ _⟩
  simp only [execOp, hop, e1]
  simp [go_sem, c0, c1, c2, c3, c4, c5, c6, c7]
theorem ds_spoil (d1 d2 k1 k2 : Nat) (h : ∀ (a : Act) (W : World), (execOp a.eval o).run Tryz.prog W = .ok (.enter 56 #[a.eval (.tmp d1), a.eval (.tmp d2)]) W) (h1 : Dep ops o k1 d1) (h2 : Dep ops o k2 d2)
    (hs1 : ∀ W v, R k1 W v → v = .pointer (some ⟨g, 0, none⟩)) (hs2 : ∀ W v, R k2 W v → IsIns v) (hc : c i = 2) (hPP : PP ≤ 1099511627776) (hJ : ∀ W W', J W → ChgG g W W' → J W') (hR : ∀ W v, IsIns v → R i W v) (hF : F g) : DStep Tryz.prog ops Q a0 g PP c J F R i o :=
  ds_call (vals := fun ρ => #[ρ (.tmp d1), ρ (.tmp d2)]) (good := fun ρ w => ρ (.tmp d1) = .pointer (some ⟨g, 0, none⟩) ∧ IsIns (ρ (.tmp d2))) h (fun a w hf hd => ⟨hs1 _ _ (dep_of h1 hd), hs2 _ _ (dep_of h2 hd)⟩) (fun ρ p w hg hr hp => by rw [hg.1, hc]; exact spoilG hr hg.2 (by omega)) hR hJ hF
end
theorem finPO {g Q n cap br u l2 : Nat} {lo hi : Int} {v2 : Value} {is2 : List Ins} {ms : List (Prc × Value)} {w w1 E : World} (lt0 : g < w.heap.size) (C1 : ChgG g w w1) (hE : ChgG g w1 E) (hO : OwnP E w.heap.size (.slice (some ⟨br, 0, none⟩) n cap) n ms) (hZ : Blk E w.heap.size 25 Zq)
    (hu : u < n) (hn : n ≤ 4) (hl : is2.length = l2) (hl2 : l2 ≤ 12) (hI : E.ownsRow w.heap.size 38 8 v2 l2 (is2.flatMap Ins.cells)) (hM : ∀ m, m ∈ ms → 1 ≤ m.1.code.length ∧ m.1.code.length ≤ 12) (hR : RdLe E g Q) :
    RetPrgO g Q w.heap.size w (.returned (.agg #[.slice (some ⟨br, 0, none⟩) n cap])) ((((E.setCell ⟨br, u * 3, none⟩ (.int .i64 lo)).setCell ⟨br, u * 3 + 1, none⟩ (.int .i64 hi)).setCell ⟨br, u * 3 + 2, none⟩ v2).setCell ⟨w.heap.size, 0, none⟩ (.slice (some ⟨br, 0, none⟩) n cap)) := by
  subst hl
  have hbr := (hO.2.1.lt br rfl).1
  have hne : w.heap.size ≠ br := blk_row hZ hO.2.1 (by decide)
  have h1 := hO.set3 (lo := lo) (hi := hi) hu hI
  have z1 := ((hZ.far (p := ⟨br, u * 3, none⟩) hne (.int .i64 lo)).far (p := ⟨br, u * 3 + 1, none⟩) hne (.int .i64 hi)).far (p := ⟨br, u * 3 + 2, none⟩) hne v2
  refine ⟨_, n, _, rfl, h1.far z1 (by decide) (by decide) _ _, by omega, fun m hm => ?_, ?_, ?_⟩
  · rcases List.mem_or_eq_of_mem_set hm with hm | rfl
    · exact (hM m hm).2
    · exact hl2
  · exact rd_set (rd_set (rd_set (rd_set hR (by simp only; omega) _) (by simp only; omega) _) (by simp only; omega) _) (by simp only; omega) _
  · exact chg_set (chg_set (chg_set (chg_set (C1.trans hE) (by simp only; omega) _) (by simp only; omega) _) (by simp only; omega) _) (Nat.le_refl _) _
def lenAt (w : World) (b : Nat) : Nat := match w.cell? ⟨b, 0, none⟩ with | some (.slice _ n _) => n | _ => 0
theorem lenAt_of {w : World} {b n c : Nat} {a : Option Addr} (h : w.cell? ⟨b, 0, none⟩ = some (.slice a n c)) : lenAt w b = n := by unfold lenAt; rw [h]

set_option maxRecDepth 100000 in
set_option maxHeartbeats 16000000 in
theorem progOrG {g P : Nat} {q : Int} {w : World} (h : RdLe w g P) (hp : P + 4000 ≤ 1099511627776) (hq : -1099511627776 ≤ q ∧ q ≤ 1099511627776) :
    Calls Tryz.prog 24 #[.pointer (some ⟨g, 0, none⟩), .int .i64 q] w (RetPrgO g (P + 1720) w.heap.size w) := by
  have lt0 := h.lt
  obtain ⟨ne0, ne1, ne2, ne3, ne4, ne5⟩ : ¬ w.heap.size = g ∧ ¬ w.heap.size + 1 = g ∧ ¬ w.heap.size + 1 + 1 = g ∧ ¬ w.heap.size + 1 + 1 + 1 = g ∧ ¬ w.heap.size + 1 + 1 + 1 + 1 = g ∧ ¬ w.heap.size + 1 + 1 + 1 + 1 + 1 = g := by omega
  have HP := Lib.hid h; clear h
  go_enter Tryz.func24, Tryz.ntmps24
  go_wp2_with fail
  refine Calls.mono (progG (P := P) (g_rd) (by omega)) ?_
  rintro e w1 ⟨v, n, ms, rfl, ho, hn, hm, hr, hc⟩
  obtain ⟨a, cap, rfl⟩ := owns_slice ho.2.1
  obtain ⟨br, rfl⟩ := own_shape ho.2.1 (by omega)
  have Z1 := Lib.hid ((Blk.new w 25 Zq).chg hc ne0)
  have C1 := Lib.hid (ChgG.trans (chg_al (ChgG.refl g w) (.cells Zq 25)) hc)
  have O1 := Lib.hid (ho.mono (B' := w.heap.size) (by simp))
  have HM := Lib.hid hm
  have R1 := Lib.hid hr
  have l1 := hr.lt
  have hzl := Z1.out.lt
  have cs1 := C1.out.size
  clear ho hr hc hm HP
  obtain ⟨b5, hb5⟩ : ∃ b, w1.heap.size = b := ⟨_, rfl⟩
  -- a row of the program, and the box of the result, in a world that grew from the first
  have hO : ∀ W, ChgG g w1 W → OwnP W w.heap.size (.slice (some ⟨br, 0, none⟩) n cap) n ms := fun W h => ⟨O1.out.1, owns_chg O1.out.2.1 h (fun b hb e => by have := (O1.out.2.1.lt b hb).1; omega), fun m hm => owns_chg (O1.out.2.2 m hm) h (fun b hb e => by have := ((O1.out.2.2 m hm).lt b hb).1; omega)⟩
  have HO := Lib.hid hO
  have HZ := Lib.hid (fun W (h : ChgG g w1 W) => (Z1.out.chg h ne0 : Blk W w.heap.size 25 Zq))
  have hbr : br < w1.heap.size ∧ w.heap.size ≤ br := by have := O1.out.2.1.lt br rfl; omega
  clear hO
  go_wp2_with fail
  try simp only [hb5]
  refine calls_let ?_
  intro E hE
  have CE : ChgG g w1 E := by rw [hE]; exact chg_al (ChgG.refl _ _) _
  have BE : Blk E b5 25 #[.slice (some ⟨br, 0, none⟩) n cap] := by rw [hE]; subst hb5; exact Blk.new _ _ _
  have RE : RdLe E g (P + 1700) := by rw [hE]; exact rd_al R1.out _
  clear hE
  refine Calls.mono (oddG (k := q) RE (by omega) hq) ?_
  rintro e w2 ⟨v, rfl, ⟨b, rfl⟩, hr, hc⟩
  have h5w : w.heap.size < b5 := by omega
  have n5 : ¬ b5 = g := by omega
  have n5r : ¬ b5 = br := by omega
  have nzr : ¬ w.heap.size = br := fun e => blk_row Z1.out O1.out.2.1 (by decide) e
  have h51 : w1.heap.size ≤ b5 := by omega
  have C2 := Lib.hid (CE.trans hc)
  have B2 := Lib.hid (BE.chg hc n5)
  have R2 := Lib.hid hr
  clear CE BE RE hr hc R1 Z1 hb5
  cases b
  · have p0 : w2.cell? ⟨b5, 0, none⟩ = some (.slice (some ⟨br, 0, none⟩) n cap) := B2.out.cell 0
    have Z2 := HZ.out _ C2.out
    have z0 : w2.cell? ⟨w.heap.size, 0, none⟩ = some (.slice none 0 0) := Z2.cell 0
    have zf := fun j => Z2.frozen j
    have zl := Z2.lt
    have Z2 := Lib.hid Z2
    go_wp2
    refine bodyPost_ret (by simp [results, Tryz.results24, go_sem, p0, z0, zl]; try rfl) rfl ?_
    refine ⟨_, _, ms, rfl, (HO.out _ C2.out).far Z2.out (by decide) (by decide) _ _, by omega, fun m hm => (HM.out m hm).2, ?_, ?_⟩
    · exact (rd_set R2.out (by simp only; omega) _).mono (by omega)
    · exact chg_set (C1.out.trans C2.out) (Nat.le_refl _) _
  have p0 : w2.cell? ⟨b5, 0, none⟩ = some (.slice (some ⟨br, 0, none⟩) n cap) := B2.out.cell 0
  have hn63 : n ≤ 9223372036854775807 := by omega
  go_wp2_with fail
  refine Calls.mono (pickG (k := (n : Int)) R2.out (by omega) (by omega)) ?_
  rintro e w3 ⟨v, rfl, ⟨u, rfl, hu⟩, hr, hc⟩
  have hu := hu (by omega)
  have hun : u < n := by omega
  have C3 := Lib.hid (C2.out.trans hc)
  have B3 := Lib.hid (B2.out.chg hc n5)
  have R3 := Lib.hid hr
  clear hr hc C2 B2 R2 p0
  obtain ⟨⟨⟨lo, hi, is⟩, cv⟩, hmu, r0, r1, r2⟩ := cellR (HO.out _ C3.out) hun
  have hmm := List.mem_of_getElem? hmu
  obtain ⟨ia, ic, hcv⟩ := owns_slice ((HO.out _ C3.out).2.2 _ hmm)
  simp only at r0 r1 r2 hcv
  subst hcv
  have hil := HM.out _ hmm
  simp only at hil
  have HOI := Lib.hid (fun W h => ((HO.out W h).2.2 _ hmm : W.ownsRow w.heap.size 38 8 (.slice ia is.length ic) is.length (is.flatMap Ins.cells)))
  clear hmu hmm
  have p0 : w3.cell? ⟨b5, 0, none⟩ = some (.slice (some ⟨br, 0, none⟩) n cap) := B3.out.cell 0
  have l3 : br < w3.heap.size := Nat.lt_of_lt_of_le hbr.1 C3.out.size
  obtain ⟨b7, hb7⟩ : ∃ b, w3.heap.size = b := ⟨_, rfl⟩
  have h57 : b5 < b7 := by have := B3.out.lt; omega
  go_wp2_with fail
  try simp only [hb7]
  refine calls_let ?_
  intro E hE
  have CE : ChgG g w1 E := by rw [hE]; exact chg_al C3.out _
  have BE : Blk E b5 25 #[.slice (some ⟨br, 0, none⟩) n cap] := by rw [hE]; exact B3.out.alloc _
  have DE : Blk E b7 56 #[.int .i64 lo, .int .i64 hi, .slice ia is.length ic] := by rw [hE]; subst hb7; exact Blk.new _ _ _
  have RE : RdLe E g (P + 1702) := by rw [hE]; exact rd_al R3.out _
  clear hE r0 r1 r2 p0 l3
  refine Calls.mono (pickG (k := (is.length : Int)) RE (by omega) (by omega)) ?_
  rintro e w4 ⟨v, rfl, ⟨j, rfl, hj⟩, hr, hc⟩
  have hj := hj (by omega)
  have hjn : j < is.length := by omega
  have n7 : ¬ b7 = g := by omega
  have n57 : ¬ b5 = b7 := by omega
  have n75 : ¬ b7 = b5 := by omega
  have n7r : ¬ b7 = br := by omega
  have nz7 : ¬ w.heap.size = b7 := by omega
  have C4 := Lib.hid (CE.trans hc)
  have B4 := Lib.hid (BE.chg hc n5)
  have D4 := Lib.hid (DE.chg hc n7)
  have R4 := Lib.hid hr
  clear CE BE DE RE hr hc C3 B3 R3 hb7
  go_wp2_with fail
  refine Calls.mono (pickG (k := 6) R4.out (by omega) (by omega)) ?_
  rintro e w5 ⟨v, rfl, ⟨s, rfl, hs⟩, hr, hc⟩
  have C5 := Lib.hid (C4.out.trans hc)
  have B5 := Lib.hid (B4.out.chg hc n5)
  have D5 := Lib.hid (D4.out.chg hc n7)
  have R5 : Hid (RdLe w5 g (P + 1704)) := Lib.hid hr
  have hs := hs (by omega)
  clear hr hc C4 B4 D4 R4
  have h17 : w1.heap.size ≤ b7 := by omega
  have p0 : w5.cell? ⟨b5, 0, none⟩ = some (.slice (some ⟨br, 0, none⟩) n cap) := B5.out.cell 0
  have q0 : w5.cell? ⟨b7, 0, none⟩ = some (.int .i64 lo) := D5.out.cell 0
  have q1 : w5.cell? ⟨b7, 1, none⟩ = some (.int .i64 hi) := D5.out.cell 1
  have q2 : w5.cell? ⟨b7, 2, none⟩ = some (.slice ia is.length ic) := D5.out.cell 2
  have qf := fun j => D5.out.frozen j
  have pf := fun j => B5.out.frozen j
  have ql := D5.out.lt
  have pl := B5.out.lt
  have Z5 := HZ.out _ C5.out
  have z0 : w5.cell? ⟨w.heap.size, 0, none⟩ = some (.slice none 0 0) := Z5.cell 0
  have zf := fun j => Z5.frozen j
  have zl := Z5.lt
  clear Z5
  obtain ⟨⟨⟨mlo, mhi, mis⟩, mcv⟩, _, r0, r1, r2⟩ := cellR (HO.out _ C5.out) hun
  simp only at r0 r1 r2
  have rf := fun j => (HO.out _ C5.out).2.1.frozenAt j
  have rl : br < w5.heap.size := Nat.lt_of_lt_of_le hbr.1 C5.out.size
  have hs6 : s = 0 ∨ s = 1 ∨ s = 2 ∨ s = 3 ∨ s = 4 ∨ s = 5 := by omega
  rcases hs6 with rfl | rfl | rfl | rfl | rfl | rfl
  · go_wp2
    have Z5 := Lib.hid (HZ.out _ C5.out)
    refine bodyPost_ret (by simp [results, Tryz.results24, go_sem, z0, zl]; try rfl) rfl ?_
    refine ⟨_, 0, [], rfl, ⟨rfl, World.ownsRow_nil _ _ _ _, fun m hm => nomatch hm⟩, by omega, (fun m hm => nomatch hm), ?_, ?_⟩
    · exact (rd_set R5.out (by simp only; omega) _).mono (by omega)
    · exact chg_set (C1.out.trans C5.out) (Nat.le_refl _) _
  · have HW : Hid (∃ (k : Nat) (a : Option Addr) (cp : Nat) (ms' : List (Prc × Value)), k ≤ 5 ∧ ChgG g w w5 ∧ RdLe w5 g (P + 1704) ∧ Blk w5 w.heap.size 25 Zq ∧ Blk w5 b5 25 #[.slice a k cp] ∧ Blk w5 b7 56 #[.int .i64 lo, .int .i64 hi, .slice ia is.length ic] ∧ OwnP w5 w.heap.size (.slice a k cp) k ms' ∧ w5.ownsRow w.heap.size 38 8 (.slice ia is.length ic) is.length (is.flatMap Ins.cells) ∧ (∀ m, m ∈ ms' → m.1.code.length ≤ 12) ∧ (Value.slice a k cp).ownBlock ≠ some b7) := Lib.hid ⟨n, _, cap, ms, by omega, C1.out.trans C5.out, R5.out, HZ.out _ C5.out, B5.out, D5.out, HO.out _ C5.out, HOI.out _ C5.out, fun m hm => (HM.out m hm).2, fun e => n7r (by simpa [Value.ownBlock] using e.symm)⟩
    clear p0 q0 q1 q2 qf pf ql pl z0 zf zl r0 r1 r2 rf rl
    go_wp2_with fail
    go_loopw [] (fun wr => ∃ (k : Nat) (a : Option Addr) (cp : Nat) (ms' : List (Prc × Value)), k ≤ 5 ∧ ChgG g w wr ∧ RdLe wr g (P + 1704) ∧ Blk wr w.heap.size 25 Zq ∧ Blk wr b5 25 #[.slice a k cp] ∧ Blk wr b7 56 #[.int .i64 lo, .int .i64 hi, .slice ia is.length ic] ∧ OwnP wr w.heap.size (.slice a k cp) k ms' ∧ wr.ownsRow w.heap.size 38 8 (.slice ia is.length ic) is.length (is.flatMap Ins.cells) ∧ (∀ m, m ∈ ms' → m.1.code.length ≤ 12) ∧ (Value.slice a k cp).ownBlock ≠ some b7) (fun wr => 5 - lenAt wr b5)
    case atStart => exact HW.out
    case round =>
      clear HW C5 B5 D5 R5
      obtain ⟨k, a, cp, ms', hk, hC, hR, hZ, hB, hD, hP, hI, hL, h7⟩ := hrel
      have c0 : wr.cell? ⟨b5, 0, none⟩ = some (.slice a k cp) := hB.cell 0
      have hk63 : k ≤ 9223372036854775807 := by omega
      have cf := fun j => hB.frozen j
      have cl := hB.lt
      by_cases h4 : (k : Int) ≤ 4
      · obtain ⟨v', w8, hrun, o8, g8, hv'⟩ := owns_append_lit (P := Tryz.prog) wr prcEl hP.2.1 1 (prcCells (⟨lo, hi, is⟩, .slice ia is.length ic)) rfl (fun u hu => prc_one _ u hu rfl) (by omega) (by omega) hC.size
        obtain ⟨a', cp', rfl⟩ := owns_slice o8
        have hc8 := Chg.of_grownBy g8
        have hrun2 : (Builtin.append_ #[23, 23] 23 #[.slice a k cp, .slice (some ⟨wr.heap.size, 0, none⟩) 1 1]).run Tryz.prog (wr.alloc (.cells #[.int .i64 lo, .int .i64 hi, .slice ia is.length ic] 56)) = .ok (.slice a' (k + 1) cp') w8 := hrun
        have HRU := Lib.hid hrun2
        have d0 : wr.cell? ⟨b7, 0, none⟩ = some (.int .i64 lo) := hD.cell 0
        have d1 : wr.cell? ⟨b7, 1, none⟩ = some (.int .i64 hi) := hD.cell 1
        have d2 : wr.cell? ⟨b7, 2, none⟩ = some (.slice ia is.length ic) := hD.cell 2
        have hb5r := blk_ne hB hP.2.1 (by decide)
        have hzr := blk_ne hZ hP.2.1 (by decide)
        have B8 := hB.chg hc8 hb5r
        have D8 := hD.chg hc8 h7
        have Z8 := hZ.chg hc8 hzr
        have hX : ∀ (x : Value) (N : Nat) (xs : List Value), wr.ownsRow w.heap.size 38 8 x N xs → w8.ownsRow w.heap.size 38 8 x N xs := fun x N xs hx => owns_chg hx hc8 (fun b hb e => row_row_ne hx hP.2.1 (by decide) hb e)
        have P8 : OwnP w8 w.heap.size (.slice a' (k + 1) cp') (k + 1) (ms' ++ [(⟨lo, hi, is⟩, .slice ia is.length ic)]) := ⟨by rw [List.length_append, hP.1]; rfl, by rw [List.flatMap_append, List.flatMap_cons, List.flatMap_nil, List.append_nil]; exact o8, fun m hm => by
          rcases List.mem_append.1 hm with hm | hm
          · exact hX _ _ _ (hP.2.2 m hm)
          · obtain rfl := List.mem_singleton.1 hm
            exact hX _ _ _ hI⟩
        have h78 : (Value.slice a' (k + 1) cp').ownBlock ≠ some b7 := fun e => by
          rcases hv' with h | h
          · rw [h] at e
            exact h7 e
          · rw [h, Option.some.injEq] at e
            have := hD.lt
            omega
        obtain ⟨W9, hW9⟩ : ∃ W9, W9 = w8.setCell ⟨b5, 0, none⟩ (.slice a' (k + 1) cp') := ⟨_, rfl⟩
        have HWN : Hid (∃ (k : Nat) (a : Option Addr) (cp : Nat) (ms' : List (Prc × Value)), k ≤ 5 ∧ ChgG g w W9 ∧ RdLe W9 g (P + 1704) ∧ Blk W9 w.heap.size 25 Zq ∧ Blk W9 b5 25 #[.slice a k cp] ∧ Blk W9 b7 56 #[.int .i64 lo, .int .i64 hi, .slice ia is.length ic] ∧ OwnP W9 w.heap.size (.slice a k cp) k ms' ∧ W9.ownsRow w.heap.size 38 8 (.slice ia is.length ic) is.length (is.flatMap Ins.cells) ∧ (∀ m, m ∈ ms' → m.1.code.length ≤ 12) ∧ (Value.slice a k cp).ownBlock ≠ some b7) := Lib.hid (by
         rw [hW9]
         exact ⟨k + 1, a', cp', _, by omega, chg_set (chg_own hC hc8 (fun b hb => (hP.2.1.lt b hb).1)) (by simp only; omega) _, rd_set (rd_own hR hc8 (fun b hb => (hP.2.1.lt b hb).1) lt0) (by simp only; omega) _, Z8.far (by simp only; omega) _, B8.set_ 0 _, D8.far (by simp only; omega) _, P8.far B8 (by decide) (by decide) _ _, owns_far (hX _ _ _ hI) (blk_ne B8 (hX _ _ _ hI) (by decide)) _, fun m hm => by
          rcases List.mem_append.1 hm with hm | hm
          · exact hL m hm
          · obtain rfl := List.mem_singleton.1 hm
            exact hil.2, h78⟩)
        have e0 : w8.cell? ⟨b5, 0, none⟩ = some (.slice a k cp) := B8.cell 0
        have ef := fun j => B8.frozen j
        have el := B8.lt
        have HME : Hid (lenAt (w8.setCell ⟨b5, 0, none⟩ (.slice a' (k + 1) cp')) b5 = k + 1) := Lib.hid (lenAt_of (((B8.set_ 0 (.slice a' (k + 1) cp')).cell 0).trans rfl))
        have HME0 := Lib.hid (lenAt_of c0)
        have HW9 := Lib.hid hW9
        clear hC hR hZ hB hD hP hI hL h7 hrun hrun2 o8 g8 hv' hc8 hb5r hzr B8 D8 Z8 hX P8 h78 hW9
        go_wp2_with (at_builtin; refine wpList_append_run rfl _ _ rfl rfl rfl rfl HRU.out ?_)
        go_roundw
        case rel =>
          have h := HWN.out
          rw [HW9.out] at h
          exact h
        case measure =>
          have h1 := HME.out
          have h2 := HME0.out
          omega
      · have HR := Lib.hid hR
        have HC := Lib.hid hC
        have HZ2 := Lib.hid hZ
        have HP2 := Lib.hid hP
        have HL2 := Lib.hid hL
        have z0 : wr.cell? ⟨w.heap.size, 0, none⟩ = some (.slice none 0 0) := hZ.cell 0
        have zf := fun j => hZ.frozen j
        have zl := hZ.lt
        clear hC hR hZ hB hD hP hI hL h7
        go_wp2
        refine bodyPost_ret (by simp [results, Tryz.results24, go_sem, c0, z0, zl]; try rfl) rfl ?_
        refine ⟨_, _, ms', rfl, HP2.out.far HZ2.out (by decide) (by decide) _ _, hk, HL2.out, ?_, ?_⟩
        · exact (rd_set HR.out (by simp only; omega) _).mono (by omega)
        · exact chg_set HC.out (Nat.le_refl _) _
  · have HE : Hid (ChgG g w1 ((w5.alloc (.cells #[] 38)).setCell ⟨b7, 2, none⟩ (.slice (some ⟨w5.heap.size, 0, none⟩) 0 0))) := Lib.hid (chg_set (chg_al C5.out _) h17 _)
    have HI : Hid (((w5.alloc (.cells #[] 38)).setCell ⟨b7, 2, none⟩ (.slice (some ⟨w5.heap.size, 0, none⟩) 0 0)).ownsRow w.heap.size 38 8 (.slice (some ⟨w5.heap.size, 0, none⟩) 0 0) 0 (([] : List Ins).flatMap Ins.cells)) := Lib.hid (by
      have h := World.ownsRow_lit w5 (base := w.heap.size) (e := 38) (size := 8) #[] 0 (by omega) (by decide) rfl
      exact owns_far h (fun e => by simp only [Value.ownBlock, Option.some.injEq] at e; omega) _)
    have HR : Hid (RdLe ((w5.alloc (.cells #[] 38)).setCell ⟨b7, 2, none⟩ (.slice (some ⟨w5.heap.size, 0, none⟩) 0 0)) g (P + 1720)) := Lib.hid (RdLe.mono (rd_set (rd_al R5.out _) (by simp only; omega) _) (by omega))
    go_wp2
    refine bodyPost_ret (by simp [results, Tryz.results24, go_sem, z0, zl]; try rfl) rfl ?_
    have hf := finPO (lo := lo) (hi := hi) lt0 C1.out HE.out (HO.out _ HE.out) (HZ.out _ HE.out) hun hn.2 (l2 := 0) (is2 := []) rfl (by omega) HI.out HM.out HR.out
    simp only [World.setCell_alloc_past, World.size_setCell, ql, rl, zl] at hf
    exact hf
  · obtain ⟨lo2, hlo2⟩ : ∃ x, IntKind.i64.wrap (hi + 1) = x := ⟨_, rfl⟩
    have HE : Hid (ChgG g w1 (w5.setCell ⟨b7, 0, none⟩ (.int .i64 lo2))) := Lib.hid (chg_set C5.out h17 _)
    have HR : Hid (RdLe (w5.setCell ⟨b7, 0, none⟩ (.int .i64 lo2)) g (P + 1720)) := Lib.hid (RdLe.mono (rd_set R5.out (by simp only; omega) _) (by omega))
    go_wp2
    refine bodyPost_ret (by simp [results, Tryz.results24, go_sem, z0, zl]; try rfl) rfl ?_
    exact finPO lt0 C1.out HE.out (HO.out _ HE.out) (HZ.out _ HE.out) hun hn.2 rfl hil.2 (HOI.out _ HE.out) HM.out HR.out
  · have oE := World.ownsRow_lit w5 (base := w5.heap.size) (e := 38) (size := 8) #[] 0 (Nat.le_refl _) (by decide) rfl
    have hrd := owns_rd (owns_grew (HOI.out _ C5.out) (grew_al (Below.refl _ _) (.cells #[] 38)))
    obtain ⟨v', w6, hrun, o6, g6, hv'⟩ := owns_append (P := Tryz.prog) (w5.alloc (.cells #[] 38)) insEl oE ia is.length ic _ hrd (ins_one is) (by omega) (by omega) (by simp)
    obtain ⟨a', cp', rfl⟩ := owns_slice o6
    rw [Nat.zero_add] at o6 hrun
    obtain ⟨bc, rfl⟩ := own_shape o6 (by omega)
    have hbc := (o6.lt bc rfl)
    have K6 : CodeB bc is.length cp' w6 := CodeB.of_own (is := is) (by simpa using o6)
    have hc6 := Chg.of_grownBy g6
    have hX6 : ∀ t, t < w5.heap.size → ¬ (Value.slice (some ⟨w5.heap.size, 0, none⟩) 0 0).ownBlock = some t := fun t ht e => by simp only [Value.ownBlock, Option.some.injEq] at e; omega
    have G6 : ChgG g w5 w6 := Chg.trans (Chg.of_below (F := fun _ => False) (grew_al (Below.refl _ _) _)) hc6 (fun _ _ h => h.elim) (fun i hi e => absurd e (hX6 i hi))
    have HRU := Lib.hid hrun
    have C6 := Lib.hid (C5.out.trans G6)
    have B6 := Lib.hid (show Blk w6 b5 25 #[.slice (some ⟨br, 0, none⟩) n cap] from (B5.out.alloc _).chg hc6 (hX6 _ pl))
    have D6 := Lib.hid (show Blk w6 b7 56 #[.int .i64 lo, .int .i64 hi, .slice ia is.length ic] from (D5.out.alloc _).chg hc6 (hX6 _ ql))
    have R6 : Hid (RdLe w6 g (P + 1704)) := Lib.hid (rd_own (rd_al R5.out (.cells #[] 38)) hc6 (fun b hb => by simp only [Value.ownBlock, Option.some.injEq] at hb; omega : ∀ b, (Value.slice (some ⟨w5.heap.size, 0, none⟩) 0 0).ownBlock = some b → w.heap.size ≤ b) lt0)
    have K6 := Lib.hid K6
    have ncb : ¬ bc = b7 := by omega
    have nbc : ¬ b7 = bc := by omega
    have ncg : ¬ bc = g := by omega
    have nc5 : ¬ bc = b5 := by omega
    have n5c : ¬ b5 = bc := by omega
    have ncr : ¬ bc = br := by omega
    have nrc : ¬ br = bc := by omega
    have ncz : ¬ bc = w.heap.size := by omega
    have nzc : ¬ w.heap.size = bc := by omega
    have hbz : w.heap.size ≤ bc := by omega
    have hgc : g < bc := by omega
    have h1c : w1.heap.size ≤ bc := by have := C5.out.size; omega
    clear oE hrd hrun o6 g6 hv' hc6 hX6 G6 p0 q0 q1 pf z0 zf r0 r1 r2 rf
    have p0 : w6.cell? ⟨b5, 0, none⟩ = some (.slice (some ⟨br, 0, none⟩) n cap) := B6.out.cell 0
    have s0 : w6.cell? ⟨b7, 0, none⟩ = some (.int .i64 lo) := D6.out.cell 0
    have s1 : w6.cell? ⟨b7, 1, none⟩ = some (.int .i64 hi) := D6.out.cell 1
    have s2 : w6.cell? ⟨b7, 2, none⟩ = some (.slice ia is.length ic) := D6.out.cell 2
    have sf := fun j => D6.out.frozen j
    have pf := fun j => B6.out.frozen j
    have sl := D6.out.lt
    have pl := B6.out.lt
    have Z6 := HZ.out _ C6.out
    have z0 : w6.cell? ⟨w.heap.size, 0, none⟩ = some (.slice none 0 0) := Z6.cell 0
    have zf := fun j => Z6.frozen j
    have zl := Z6.lt
    clear Z6
    have kf := fun j => K6.out.fz j
    have kl := K6.out.lt
    have hil63 : is.length ≤ 9223372036854775807 := by omega
    have hE0 : ChgG g w1 (w6.setCell ⟨b7, 2, none⟩ (.slice (some ⟨bc, 0, none⟩) is.length cp')) := chg_set C6.out h17 _
    have HE0 := Lib.hid hE0
    clear hE0
    go_wp2_with (at_builtin; refine wpList_append_run rfl _ _ rfl rfl rfl rfl HRU.out ?_)
    have J0 : ChgG g w1 (w6.setCell ⟨b7, 2, none⟩ (.slice (some ⟨bc, 0, none⟩) is.length cp')) ∧ Blk (w6.setCell ⟨b7, 2, none⟩ (.slice (some ⟨bc, 0, none⟩) is.length cp')) b5 25 #[.slice (some ⟨br, 0, none⟩) n cap] ∧ Blk (w6.setCell ⟨b7, 2, none⟩ (.slice (some ⟨bc, 0, none⟩) is.length cp')) b7 56 #[.int .i64 lo, .int .i64 hi, .slice (some ⟨bc, 0, none⟩) is.length cp'] ∧ CodeB bc is.length cp' (w6.setCell ⟨b7, 2, none⟩ (.slice (some ⟨bc, 0, none⟩) is.length cp')) := ⟨HE0.out, B6.out.far n57 _, D6.out.set_ 2 _, K6.out.far ncb _⟩
    have hPP : P + 1704 + 2 ≤ 1099511627776 := by omega
    have hJC : ∀ W W', (ChgG g w1 W ∧ Blk W b5 25 #[.slice (some ⟨br, 0, none⟩) n cap] ∧ Blk W b7 56 #[.int .i64 lo, .int .i64 hi, .slice (some ⟨bc, 0, none⟩) is.length cp'] ∧ CodeB bc is.length cp' W) → ChgG g W W' → (ChgG g w1 W' ∧ Blk W' b5 25 #[.slice (some ⟨br, 0, none⟩) n cap] ∧ Blk W' b7 56 #[.int .i64 lo, .int .i64 hi, .slice (some ⟨bc, 0, none⟩) is.length cp'] ∧ CodeB bc is.length cp' W') := fun W W' h c => ⟨h.1.trans c, h.2.1.chg c n5, h.2.2.1.chg c n7, h.2.2.2.chg c ncg⟩
    have hrE : RdLe (w6.setCell ⟨b7, 2, none⟩ (.slice (some ⟨bc, 0, none⟩) is.length cp')) g (P + 1704) := rd_set R6.out (by simp only; omega) _
    refine region_drawL g (P + 1704) 2 108 [0, 0, 0, 0, 0, 0, 0, 0, 0, 2, 0, 0] (fun W => ChgG g w1 W ∧ Blk W b5 25 #[.slice (some ⟨br, 0, none⟩) n cap] ∧ Blk W b7 56 #[.int .i64 lo, .int .i64 hi, .slice (some ⟨bc, 0, none⟩) is.length cp'] ∧ CodeB bc is.length cp' W) (fun b => b = g ∨ b = bc)
      [prV (fun v => v = .pointer (some ⟨b7, 2, none⟩)), prV (fun v => v = .slice (some ⟨bc, 0, none⟩) is.length cp'), prV (fun v => v = .int .i64 j), prV (fun v => v = .pointer (some ⟨g, 0, none⟩)), prV (fun v => v = .pointer (some ⟨b7, 2, none⟩)), prV (fun v => v = .slice (some ⟨bc, 0, none⟩) is.length cp'), prV (fun v => v = .int .i64 j), prV (fun v => v = .pointer (some ⟨bc, j * 8, none⟩)), prV IsIns, prV IsIns, prV (fun v => v = .pointer (some ⟨bc, j * 8, none⟩)), prT]
      (by kernel_rfl) rfl (by kernel_rfl) (by kernel_rfl) ⟨chg_drew J0.1, J0.2.1.grew (grew_d (Below.refl _ _)), J0.2.2.1.grew (grew_d (Below.refl _ _)), J0.2.2.2.drew⟩ hrE ⟨?_, ?_, ?_, ?_, ?_, ?_, ?_, ?_, ?_, ?_, ?_, ?_, trivial⟩ ?_
    · exact ds_field 7 2 _ _ rfl (by kernel_rfl) rfl (fun W => by kernel_rfl) (fun _ => rfl)
    · exact ds_run (.slice (some ⟨bc, 0, none⟩) is.length cp') (fun A W hJ hf hd => by
        have e0 : A.eval (.tmp 91) = .pointer (some ⟨b7, 2, none⟩) := dep_of (k := 0) (d := 91) ⟨⟨⟨0, .data⟩, by simp, rfl, by kernel_rfl⟩, by kernel_rfl⟩ hd
        have c2 : W.cell? ⟨b7, 2, none⟩ = some (.slice (some ⟨bc, 0, none⟩) is.length cp') := hJ.2.2.1.cell 2
        simp only [execOp, e0]
        simp [go_sem, c2]) (fun _ => rfl)
    · exact ds_move 8 _ rfl (by kernel_rfl) rfl (fun _ => rfl)
    · exact ds_move 0 _ rfl (by kernel_rfl) rfl (fun _ => rfl)
    · exact ds_field 7 2 _ _ rfl (by kernel_rfl) rfl (fun W => by kernel_rfl) (fun _ => rfl)
    · exact ds_run (.slice (some ⟨bc, 0, none⟩) is.length cp') (fun A W hJ hf hd => by
        have e0 : A.eval (.tmp 95) = .pointer (some ⟨b7, 2, none⟩) := dep_of (k := 4) (d := 95) ⟨⟨⟨4, .data⟩, by simp, rfl, by kernel_rfl⟩, by kernel_rfl⟩ hd
        have c2 : W.cell? ⟨b7, 2, none⟩ = some (.slice (some ⟨bc, 0, none⟩) is.length cp') := hJ.2.2.1.cell 2
        simp only [execOp, e0]
        simp [go_sem, c2]) (fun _ => rfl)
    · exact ds_move 8 _ rfl (by kernel_rfl) rfl (fun _ => rfl)
    · exact ds_run (.pointer (some ⟨bc, j * 8, none⟩)) (fun A W hJ hf hd => by
        have e0 : A.eval (.tmp 96) = .slice (some ⟨bc, 0, none⟩) is.length cp' := dep_of (k := 5) (d := 96) ⟨⟨⟨5, .data⟩, by simp, rfl, by kernel_rfl⟩, by kernel_rfl⟩ hd
        have e1 : A.eval (.tmp 97) = .int .i64 j := dep_of (k := 6) (d := 97) ⟨⟨⟨6, .data⟩, by simp, rfl, by kernel_rfl⟩, by kernel_rfl⟩ hd
        simp only [execOp, e0, e1]
        simp [go_sem, hjn]) (fun _ => rfl)
    · exact ds_loadK bc is.length cp' (j * 8) 98 7 rfl ⟨⟨⟨7, .data⟩, by simp, rfl, by kernel_rfl⟩, by kernel_rfl⟩ (fun _ _ h => h) (by omega) (fun W h => h.2.2.2) (fun _ _ h => h)
    · exact ds_spoil 94 99 3 8 (fun _ _ => by kernel_rfl) ⟨⟨⟨3, .data⟩, by simp, rfl, by kernel_rfl⟩, by kernel_rfl⟩ ⟨⟨⟨8, .data⟩, by simp, rfl, by kernel_rfl⟩, by kernel_rfl⟩ (fun _ _ h => h) (fun _ _ h => h) rfl hPP hJC (fun _ _ h => h) (.inl rfl)
    · exact ds_run (.pointer (some ⟨bc, j * 8, none⟩)) (fun A W hJ hf hd => by
        have e0 : A.eval (.tmp 92) = .slice (some ⟨bc, 0, none⟩) is.length cp' := dep_of (k := 1) (d := 92) ⟨⟨⟨1, .data⟩, by simp, rfl, by kernel_rfl⟩, by kernel_rfl⟩ hd
        have e1 : A.eval (.tmp 93) = .int .i64 j := dep_of (k := 2) (d := 93) ⟨⟨⟨2, .data⟩, by simp, rfl, by kernel_rfl⟩, by kernel_rfl⟩ hd
        simp only [execOp, e0, e1]
        simp [go_sem, hjn]) (fun _ => rfl)
    · exact ds_storeK bc is.length cp' (j * 8) 101 10 100 9 rfl ⟨⟨⟨10, .data⟩, by simp, rfl, by kernel_rfl⟩, by kernel_rfl⟩ ⟨⟨⟨9, .data⟩, by simp, rfl, by kernel_rfl⟩, by kernel_rfl⟩ (fun _ _ h => h) (fun _ _ h => h) (by omega) (fun W h => h.2.2.2) (fun W W' h hk hc => ⟨Chg.trans h.1 hc (fun _ _ h => h) (fun i hi e => by omega), h.2.1.chg hc n5c, h.2.2.1.chg hc nbc, hk⟩) hgc (.inr rfl) (fun _ _ => trivial)
    rintro vs w8 ⟨hC, hB, hD, hK⟩ hP hR
    have HC := Lib.hid hC
    have HB := Lib.hid hB
    have HD := Lib.hid hD
    have HK := Lib.hid hK
    have HR8 := Lib.hid hP
    clear hR hC hB hD hK hP hJC hPP J0 hrE HE0 HRU C6 B6 D6 R6 K6 p0 s0 s1 s2 sf pf sl pl z0 zf zl kf kl C5 B5 D5 R5
    simp only [putAll, Act.put, List.setIfInBounds_toArray, List.set_cons_zero, List.set_cons_succ]
    have p0 : w8.cell? ⟨b5, 0, none⟩ = some (.slice (some ⟨br, 0, none⟩) n cap) := HB.out.cell 0
    have s0 : w8.cell? ⟨b7, 0, none⟩ = some (.int .i64 lo) := HD.out.cell 0
    have s1 : w8.cell? ⟨b7, 1, none⟩ = some (.int .i64 hi) := HD.out.cell 1
    have s2 : w8.cell? ⟨b7, 2, none⟩ = some (.slice (some ⟨bc, 0, none⟩) is.length cp') := HD.out.cell 2
    have sf := fun j => HD.out.frozen j
    have pf := fun j => HB.out.frozen j
    have sl := HD.out.lt
    have pl := HB.out.lt
    have Z6 := HZ.out _ HC.out
    have z0 : w8.cell? ⟨w.heap.size, 0, none⟩ = some (.slice none 0 0) := Z6.cell 0
    have zf := fun j => Z6.frozen j
    have zl := Z6.lt
    clear Z6
    obtain ⟨is8, hl8, o8⟩ := HK.out.own (B := w.heap.size) hbz
    have HO8 := Lib.hid o8
    have HL8 := Lib.hid hl8
    clear o8 hl8
    obtain ⟨⟨⟨mlo, mhi, mis⟩, mcv⟩, _, r0, r1, r2⟩ := cellR (HO.out _ HC.out) hun
    simp only at r0 r1 r2
    have rf := fun j => (HO.out _ HC.out).2.1.frozenAt j
    have rl : br < w8.heap.size := Nat.lt_of_lt_of_le hbr.1 HC.out.size
    go_wp2
    refine bodyPost_ret (by simp [results, Tryz.results24, go_sem, z0, zl]; try rfl) rfl ?_
    exact finPO lt0 C1.out HC.out (HO.out _ HC.out) (HZ.out _ HC.out) hun hn.2 HL8.out hil.2 HO8.out HM.out (HR8.out.mono (by omega))
  · have oE := World.ownsRow_lit w5 (base := w5.heap.size) (e := 38) (size := 8) #[] 0 (Nat.le_refl _) (by decide) rfl
    have hrd := owns_rd (owns_grew (HOI.out _ C5.out) (grew_al (Below.refl _ _) (.cells #[] 38)))
    obtain ⟨v', w6, hrun, o6, g6, hv'⟩ := owns_append (P := Tryz.prog) (w5.alloc (.cells #[] 38)) insEl oE ia is.length ic _ hrd (ins_one is) (by omega) (by omega) (by simp)
    obtain ⟨a', cp', rfl⟩ := owns_slice o6
    rw [Nat.zero_add] at o6 hrun
    obtain ⟨bc, rfl⟩ := own_shape o6 (by omega)
    have hbc := (o6.lt bc rfl)
    have K6 : CodeB bc is.length cp' w6 := CodeB.of_own (is := is) (by simpa using o6)
    have hc6 := Chg.of_grownBy g6
    have hX6 : ∀ t, t < w5.heap.size → ¬ (Value.slice (some ⟨w5.heap.size, 0, none⟩) 0 0).ownBlock = some t := fun t ht e => by simp only [Value.ownBlock, Option.some.injEq] at e; omega
    have G6 : ChgG g w5 w6 := Chg.trans (Chg.of_below (F := fun _ => False) (grew_al (Below.refl _ _) _)) hc6 (fun _ _ h => h.elim) (fun i hi e => absurd e (hX6 i hi))
    have HRU := Lib.hid hrun
    have C6 := Lib.hid (C5.out.trans G6)
    have B6 := Lib.hid (show Blk w6 b5 25 #[.slice (some ⟨br, 0, none⟩) n cap] from (B5.out.alloc _).chg hc6 (hX6 _ pl))
    have D6 := Lib.hid (show Blk w6 b7 56 #[.int .i64 lo, .int .i64 hi, .slice ia is.length ic] from (D5.out.alloc _).chg hc6 (hX6 _ ql))
    have R6 : Hid (RdLe w6 g (P + 1704)) := Lib.hid (rd_own (rd_al R5.out (.cells #[] 38)) hc6 (fun b hb => by simp only [Value.ownBlock, Option.some.injEq] at hb; omega : ∀ b, (Value.slice (some ⟨w5.heap.size, 0, none⟩) 0 0).ownBlock = some b → w.heap.size ≤ b) lt0)
    have K6 := Lib.hid K6
    have ncb : ¬ bc = b7 := by omega
    have nbc : ¬ b7 = bc := by omega
    have ncg : ¬ bc = g := by omega
    have nc5 : ¬ bc = b5 := by omega
    have n5c : ¬ b5 = bc := by omega
    have ncr : ¬ bc = br := by omega
    have nrc : ¬ br = bc := by omega
    have ncz : ¬ bc = w.heap.size := by omega
    have nzc : ¬ w.heap.size = bc := by omega
    have hbz : w.heap.size ≤ bc := by omega
    have hgc : g < bc := by omega
    have h1c : w1.heap.size ≤ bc := by have := C5.out.size; omega
    clear oE hrd hrun o6 g6 hv' hc6 hX6 G6 p0 q0 q1 pf z0 zf r0 r1 r2 rf
    have p0 : w6.cell? ⟨b5, 0, none⟩ = some (.slice (some ⟨br, 0, none⟩) n cap) := B6.out.cell 0
    have s0 : w6.cell? ⟨b7, 0, none⟩ = some (.int .i64 lo) := D6.out.cell 0
    have s1 : w6.cell? ⟨b7, 1, none⟩ = some (.int .i64 hi) := D6.out.cell 1
    have s2 : w6.cell? ⟨b7, 2, none⟩ = some (.slice ia is.length ic) := D6.out.cell 2
    have sf := fun j => D6.out.frozen j
    have pf := fun j => B6.out.frozen j
    have sl := D6.out.lt
    have pl := B6.out.lt
    have Z6 := HZ.out _ C6.out
    have z0 : w6.cell? ⟨w.heap.size, 0, none⟩ = some (.slice none 0 0) := Z6.cell 0
    have zf := fun j => Z6.frozen j
    have zl := Z6.lt
    clear Z6
    have kf := fun j => K6.out.fz j
    have kl := K6.out.lt
    have hil63 : is.length ≤ 9223372036854775807 := by omega
    obtain ⟨L, hL⟩ : ∃ L : Nat, is.length = L + 1 := ⟨is.length - 1, by omega⟩
    have hLw : IntKind.i64.wrap ((is.length : Int) - 1) = (L : Int) := by rw [show (is.length : Int) - 1 = (L : Int) from by omega]; first | exact IntWalk.i64_in (by omega) (by omega) | exact IntWalk.i64_in _ (by omega) (by omega) | go_unwrap
    have hLi : L < is.length := by omega
    have HHL := Lib.hid hL
    clear hL
    go_upto_region 8 with (at_builtin; refine wpList_append_run rfl _ _ rfl rfl rfl rfl HRU.out ?_)
    refine wp_let_c ?_
    intro E0 hE0
    have CE := Lib.hid (show ChgG g w1 E0 from by rw [hE0]; exact chg_set C6.out h17 _)
    have BE := Lib.hid (show Blk E0 b5 25 #[.slice (some ⟨br, 0, none⟩) n cap] from by rw [hE0]; exact B6.out.far n57 _)
    have DE := Lib.hid (show Blk E0 b7 56 #[.int .i64 lo, .int .i64 hi, .slice (some ⟨bc, 0, none⟩) is.length cp'] from by rw [hE0]; exact D6.out.set_ 2 _)
    have KE := Lib.hid (show CodeB bc is.length cp' E0 from by rw [hE0]; exact K6.out.far ncb _)
    have RE := Lib.hid (show RdLe E0 g (P + 1704) from by rw [hE0]; exact rd_set R6.out (by simp only; omega) _)
    clear hE0 p0 s0 s1 s2 sf pf sl pl z0 zf zl kf kl HRU C6 B6 D6 R6 K6
    have s2 : E0.cell? ⟨b7, 2, none⟩ = some (.slice (some ⟨bc, 0, none⟩) is.length cp') := DE.out.cell 2
    have sf := fun j => DE.out.frozen j
    have sl := DE.out.lt
    have kf := fun j => KE.out.fz j
    have kl := KE.out.lt
    obtain ⟨x0, k0⟩ := KE.out.get (i := L * 8) (by omega)
    obtain ⟨x1, k1⟩ := KE.out.get (i := L * 8 + 1) (by omega)
    obtain ⟨x2, k2⟩ := KE.out.get (i := L * 8 + 2) (by omega)
    obtain ⟨x3, k3⟩ := KE.out.get (i := L * 8 + 3) (by omega)
    obtain ⟨x4, k4⟩ := KE.out.get (i := L * 8 + 4) (by omega)
    obtain ⟨x5, k5⟩ := KE.out.get (i := L * 8 + 5) (by omega)
    obtain ⟨x6, k6⟩ := KE.out.get (i := L * 8 + 6) (by omega)
    obtain ⟨x7, k7⟩ := KE.out.get (i := L * 8 + 7) (by omega)
    go_upto_region 9 with fail
    refine wp_let_c ?_
    intro E hE
    have hC : ChgG g w1 E := by
      rw [hE]
      exact chg_set (chg_set (chg_set (chg_set (chg_set (chg_set (chg_set (chg_set CE.out h1c _) h1c _) h1c _) h1c _) h1c _) h1c _) h1c _) h1c _
    have hB : Blk E b5 25 #[.slice (some ⟨br, 0, none⟩) n cap] := by
      rw [hE]
      exact (((((((BE.out.far n5c _).far n5c _).far n5c _).far n5c _).far n5c _).far n5c _).far n5c _).far n5c _
    have hD : Blk E b7 56 #[.int .i64 lo, .int .i64 hi, .slice (some ⟨bc, 0, none⟩) is.length cp'] := by
      rw [hE]
      exact (((((((DE.out.far nbc _).far nbc _).far nbc _).far nbc _).far nbc _).far nbc _).far nbc _).far nbc _
    have hK : CodeB bc is.length cp' E := by
      rw [hE]
      exact ((((((((KE.out).set (by omega) _).set (by omega) _).set (by omega) _).set (by omega) _).set (by omega) _).set (by omega) _).set (by omega) _).set (by omega) _
    have hRR : RdLe E g (P + 1720) := by
      rw [hE]
      exact (rd_set (rd_set (rd_set (rd_set (rd_set (rd_set (rd_set (rd_set RE.out (by simp only; omega) _) (by simp only; omega) _) (by simp only; omega) _) (by simp only; omega) _) (by simp only; omega) _) (by simp only; omega) _) (by simp only; omega) _) (by simp only; omega) _).mono (by omega)
    clear hE k0 k1 k2 k3 k4 k5 k6 k7 s2 sf sl kf kl CE BE DE KE RE
    obtain ⟨is8, hl8, o8⟩ := hK.own (B := w.heap.size) hbz
    have HO8 := Lib.hid o8
    have HL8 := Lib.hid hl8
    have HC := Lib.hid hC
    have HB := Lib.hid hB
    have HD := Lib.hid hD
    have HR8 := Lib.hid hRR
    clear hC hB hD hK hRR o8 hl8
    have p0 : E.cell? ⟨b5, 0, none⟩ = some (.slice (some ⟨br, 0, none⟩) n cap) := HB.out.cell 0
    have s0 : E.cell? ⟨b7, 0, none⟩ = some (.int .i64 lo) := HD.out.cell 0
    have s1 : E.cell? ⟨b7, 1, none⟩ = some (.int .i64 hi) := HD.out.cell 1
    have s2 : E.cell? ⟨b7, 2, none⟩ = some (.slice (some ⟨bc, 0, none⟩) is.length cp') := HD.out.cell 2
    have sf := fun j => HD.out.frozen j
    have pf := fun j => HB.out.frozen j
    have sl := HD.out.lt
    have pl := HB.out.lt
    have Z6 := HZ.out _ HC.out
    have z0 : E.cell? ⟨w.heap.size, 0, none⟩ = some (.slice none 0 0) := Z6.cell 0
    have zf := fun j => Z6.frozen j
    have zl := Z6.lt
    clear Z6
    obtain ⟨⟨⟨mlo, mhi, mis⟩, mcv⟩, _, r0, r1, r2⟩ := cellR (HO.out _ HC.out) hun
    simp only at r0 r1 r2
    have rf := fun j => (HO.out _ HC.out).2.1.frozenAt j
    have rl : br < E.heap.size := Nat.lt_of_lt_of_le hbr.1 HC.out.size
    go_wp2
    refine bodyPost_ret (by simp [results, Tryz.results24, go_sem, z0, zl]; try rfl) rfl ?_
    exact finPO lt0 C1.out HC.out (HO.out _ HC.out) (HZ.out _ HC.out) hun hn.2 HL8.out hil.2 HO8.out HM.out HR8.out
end Go.Proofs.YtcdfomoglkhboaaGreatDoor
