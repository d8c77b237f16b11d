/- The walk of the law FnPrgAt. No condition. -/
import Derived.Test.YtnjoofpllhbccaaDrY
import Derived.Test.YtnjoofpllhbccaaPrgAt
import Derived.Test.YtnjoofpllhbccaaPrgSize
import Derived.Test.YtnjoofpllhbccaaGrw
namespace Go.Proofs.Ytnjoofpllhbccaa
open Go.RowKit
set_option linter.unusedVariables false
set_option linter.unusedSimpArgs false
attribute [local go_sem ↓] insNeq insEql
attribute [local go_sem] ext_cell ext_frozen ext_lt ext_le ext_le1 lt_s2 lt_s3 lt_s4 lt_s5 lt_s6 ext_lt1 ext_lt2 ext_lt3

theorem owOkP (w : World) : Calls Try.prog 18 #[] w fun e w' => e = .returned (.bool true) ∧ w = w' := by
  have C := Lib.hid (fun w => implNumOk 1 w)
  go_enter Try.func18, Try.ntmps18
  go_wp2_with fail
  refine (C.out _).mono ?_
  rintro e w' ⟨rfl, rfl⟩
  go_wp2
  go_ret
  exact ⟨rfl, rfl⟩
theorem at_some {ps : List Prc} {k j : Nat} {p : Prc} {i : Ins} (h : ps[k]? = some p) (hi : p.code[j]? = some i) : atO ps k j = some i := by rw [atO_nat, h]; exact hi
theorem at_past {ps : List Prc} {k : Nat} {p : Prc} (h : ps[k]? = some p) : atO ps k (p.code.length : Nat) = none := by rw [atO_nat, h]; exact List.getElem?_eq_none (Nat.le_refl _)
theorem v_int {x y : Int} (h : x = y) : Value.int .i64 x = .int .i64 y := by rw [h]
theorem insEq_self (i : Ins) : insEqB i i = true := by simp [insEqB]

set_option maxRecDepth 100000 in
set_option maxHeartbeats 4000000 in
theorem lawFnPrgAt (a : Option Addr) (n c : Nat) (xs : List Int) (w : World) (hr : Rd w a n 1 (ints .u8 xs)) (hx : Bs xs) (hc : n ≤ c ∧ c ≤ maxLen) :
    Calls Try.prog 5 #[.slice a n c] w fun e w' => e = .returned (.bool true) ∧ Grew w w' := by
  have HR := Lib.hid hr; clear hr
  have HX := Lib.hid hx; clear hx
  by_cases h1 : (n : Int) > 1048576
  · go_enter Try.func5, Try.ntmps5
    go_wp2
    go_ret
    exact ⟨rfl, Below.refl _ _⟩
  go_enter Try.func5, Try.ntmps5
  go_wp2_with fail
  refine (drawPrgAt a n c xs w HR.out HX.out hc).mono ?_
  rintro e w1 ⟨pa, m, pc, ps, x, y, rfl, hp, g1⟩
  have hm5 : m ≤ 5 := hp.2.1
  have hm63 : m ≤ 9223372036854775807 := by omega
  have B1 := Lib.hid (Blk.new w1 49 #[.slice pa m pc])
  have P1 := Lib.hid (hp.grew (grew_al (Below.refl _ w1) (.cells #[.slice pa m pc] 49)))
  have G1 := Lib.hid (grew_tr g1 (grew_al (Below.refl _ _) (.cells #[.slice pa m pc] 49)))
  have CA := Lib.hid (fun W (h : RdP W pa m ps) (p q : Int) => implPrgAt pa m pc ps p q W h hm63)
  have CB := Lib.hid (fun W (h : RdP W pa m ps) (p q : Int) => specPrgAt pa m pc ps p q W h hm63)
  have CO := Lib.hid (fun W (h : RdP W pa m ps) => implPrgOk pa m pc ps W h hm63)
  have CP := Lib.hid (fun W (h : RdP W pa m ps) => specPrgOk pa m pc ps W h hm63)
  have CS := Lib.hid (fun W (h : RdP W pa m ps) => implPrgSize pa m pc ps W h hm5 hp.2.2)
  have HPL := Lib.hid hp.2.2
  have HML := Lib.hid hp.len
  clear hp g1 HR HX
  obtain ⟨b3, hb3⟩ : ∃ b, w1.heap.size = b := ⟨_, rfl⟩
  rw [hb3] at B1
  go_wp2_with fail
  refine (CA.out _ P1.out.1 x y).mono ?_
  rintro e w2 ⟨rfl, g2⟩
  obtain ⟨⟨op, d, ia, ib, rel, lo, hi, to⟩, hI⟩ : ∃ I, insOf (atO ps x y) = I := ⟨_, rfl⟩
  have CB2 := fun W h => CB.out W h x y
  unfold RetAt at CB2
  rw [hI] at CB2 ⊢
  obtain ⟨ok, hok⟩ : ∃ b, (atO ps x y).isSome = b := ⟨_, rfl⟩
  rw [hok] at CB2 ⊢
  clear hI hok
  have CB2 := Lib.hid CB2
  have B2 := Lib.hid (B1.out.grew g2)
  have P2 := Lib.hid (P1.out.grew g2)
  have G2 := Lib.hid (grew_tr G1.out g2)
  simp only [Ins.v]
  clear g2 B1 P1 G1
  have p0 : w2.cell? ⟨b3, 0, none⟩ = some (.slice pa m pc) := B2.out.cell 0
  have pl := B2.out.lt
  try rw [hb3]
  clear hb3
  go_wp2_with fail
  refine (CB2.out _ (P2.out.grew (grew_al (Below.refl _ _) _)).1).mono ?_
  rintro e w3 ⟨rfl, g3⟩
  simp only [Ins.v]
  have D3 := Lib.hid ((Blk.new w2 53 #[.int .i64 op, .int .i64 d, .int .i64 ia, .int .i64 ib, .int .i64 rel, .int .i64 lo, .int .i64 hi, .int .i64 to]).grew g3)
  have B3 := Lib.hid ((B2.out.alloc (.cells #[.int .i64 op, .int .i64 d, .int .i64 ia, .int .i64 ib, .int .i64 rel, .int .i64 lo, .int .i64 hi, .int .i64 to] 53)).grew g3)
  have P3 := Lib.hid ((P2.out.grew (grew_al (Below.refl _ _) (.cells #[.int .i64 op, .int .i64 d, .int .i64 ia, .int .i64 ib, .int .i64 rel, .int .i64 lo, .int .i64 hi, .int .i64 to] 53))).grew g3)
  have G3 := Lib.hid (grew_tr G2.out (grew_tr (grew_al (Below.refl _ _) (.cells #[.int .i64 op, .int .i64 d, .int .i64 ia, .int .i64 ib, .int .i64 rel, .int .i64 lo, .int .i64 hi, .int .i64 to] 53)) g3))
  obtain ⟨b6, hb6⟩ : ∃ b, w2.heap.size = b := ⟨_, rfl⟩
  rw [hb6] at D3
  clear g3 B2 P2 G2 p0 pl CB2
  have p0 : w3.cell? ⟨b3, 0, none⟩ = some (.slice pa m pc) := B3.out.cell 0
  have pl := B3.out.lt
  have d0 : w3.cell? ⟨b6, 0, none⟩ = some (.int .i64 op) := D3.out.cell 0
  have d1 : w3.cell? ⟨b6, 1, none⟩ = some (.int .i64 d) := D3.out.cell 1
  have d2 : w3.cell? ⟨b6, 2, none⟩ = some (.int .i64 ia) := D3.out.cell 2
  have d3 : w3.cell? ⟨b6, 3, none⟩ = some (.int .i64 ib) := D3.out.cell 3
  have d4 : w3.cell? ⟨b6, 4, none⟩ = some (.int .i64 rel) := D3.out.cell 4
  have d5 : w3.cell? ⟨b6, 5, none⟩ = some (.int .i64 lo) := D3.out.cell 5
  have d6 : w3.cell? ⟨b6, 6, none⟩ = some (.int .i64 hi) := D3.out.cell 6
  have d7 : w3.cell? ⟨b6, 7, none⟩ = some (.int .i64 to) := D3.out.cell 7
  have dl := D3.out.lt
  try rw [hb6]
  clear hb6
  have heq : insEqB ⟨op, d, ia, ib, rel, lo, hi, to⟩ ⟨op, d, ia, ib, rel, lo, hi, to⟩ = true := insEq_self _
  obtain ⟨okp, hokp⟩ : ∃ b, prgOkB ps = b := ⟨_, rfl⟩
  rw [hokp] at CO CP
  clear hokp
  obtain ⟨W4, hW4⟩ : ∃ W, W = w3.alloc (.cells #[.int .i64 op, .int .i64 d, .int .i64 ia, .int .i64 ib, .int .i64 rel, .int .i64 lo, .int .i64 hi, .int .i64 to] 53) := ⟨_, rfl⟩
  have SG : ∀ W, Grew (w3.alloc (.cells #[.int .i64 op, .int .i64 d, .int .i64 ia, .int .i64 ib, .int .i64 rel, .int .i64 lo, .int .i64 hi, .int .i64 to] 53)) W → (W.cell? ⟨b3, 0, none⟩ = some (.slice pa m pc) ∧ W.cell? ⟨b6, 0, none⟩ = some (.int .i64 op) ∧ W.cell? ⟨b6, 1, none⟩ = some (.int .i64 d) ∧ W.cell? ⟨b6, 2, none⟩ = some (.int .i64 ia) ∧ W.cell? ⟨b6, 3, none⟩ = some (.int .i64 ib) ∧ W.cell? ⟨b6, 4, none⟩ = some (.int .i64 rel) ∧ W.cell? ⟨b6, 5, none⟩ = some (.int .i64 lo) ∧ W.cell? ⟨b6, 6, none⟩ = some (.int .i64 hi) ∧ W.cell? ⟨b6, 7, none⟩ = some (.int .i64 to)) ∧ W.cell? ⟨w3.heap.size, 0, none⟩ = some (.int .i64 op) ∧ W.cell? ⟨w3.heap.size, 1, none⟩ = some (.int .i64 d) ∧ W.cell? ⟨w3.heap.size, 2, none⟩ = some (.int .i64 ia) ∧ W.cell? ⟨w3.heap.size, 3, none⟩ = some (.int .i64 ib) ∧ W.cell? ⟨w3.heap.size, 4, none⟩ = some (.int .i64 rel) ∧ W.cell? ⟨w3.heap.size, 5, none⟩ = some (.int .i64 lo) ∧ W.cell? ⟨w3.heap.size, 6, none⟩ = some (.int .i64 hi) ∧ W.cell? ⟨w3.heap.size, 7, none⟩ = some (.int .i64 to) := fun W h => by
    have h6 := (D3.out.alloc (.cells #[.int .i64 op, .int .i64 d, .int .i64 ia, .int .i64 ib, .int .i64 rel, .int .i64 lo, .int .i64 hi, .int .i64 to] 53)).grew h
    have h3 := (B3.out.alloc (.cells #[.int .i64 op, .int .i64 d, .int .i64 ia, .int .i64 ib, .int .i64 rel, .int .i64 lo, .int .i64 hi, .int .i64 to] 53)).grew h
    have h8 := (Blk.new w3 53 #[.int .i64 op, .int .i64 d, .int .i64 ia, .int .i64 ib, .int .i64 rel, .int .i64 lo, .int .i64 hi, .int .i64 to]).grew h
    exact ⟨⟨h3.cell 0, h6.cell 0, h6.cell 1, h6.cell 2, h6.cell 3, h6.cell 4, h6.cell 5, h6.cell 6, h6.cell 7⟩, h8.cell 0, h8.cell 1, h8.cell 2, h8.cell 3, h8.cell 4, h8.cell 5, h8.cell 6, h8.cell 7⟩
  have HSG := Lib.hid SG
  clear SG hW4 W4
  have P4 := Lib.hid (P3.out.grew (grew_al (Below.refl _ _) (.cells #[.int .i64 op, .int .i64 d, .int .i64 ia, .int .i64 ib, .int .i64 rel, .int .i64 lo, .int .i64 hi, .int .i64 to] 53)))
  go_wp2_with fail
  go_region_held3 (fun W => (W.cell? ⟨b3, 0, none⟩ = some (.slice pa m pc) ∧ W.cell? ⟨b6, 0, none⟩ = some (.int .i64 op) ∧ W.cell? ⟨b6, 1, none⟩ = some (.int .i64 d) ∧ W.cell? ⟨b6, 2, none⟩ = some (.int .i64 ia) ∧ W.cell? ⟨b6, 3, none⟩ = some (.int .i64 ib) ∧ W.cell? ⟨b6, 4, none⟩ = some (.int .i64 rel) ∧ W.cell? ⟨b6, 5, none⟩ = some (.int .i64 lo) ∧ W.cell? ⟨b6, 6, none⟩ = some (.int .i64 hi) ∧ W.cell? ⟨b6, 7, none⟩ = some (.int .i64 to)) ∧ W.cell? ⟨w3.heap.size, 0, none⟩ = some (.int .i64 op) ∧ W.cell? ⟨w3.heap.size, 1, none⟩ = some (.int .i64 d) ∧ W.cell? ⟨w3.heap.size, 2, none⟩ = some (.int .i64 ia) ∧ W.cell? ⟨w3.heap.size, 3, none⟩ = some (.int .i64 ib) ∧ W.cell? ⟨w3.heap.size, 4, none⟩ = some (.int .i64 rel) ∧ W.cell? ⟨w3.heap.size, 5, none⟩ = some (.int .i64 lo) ∧ W.cell? ⟨w3.heap.size, 6, none⟩ = some (.int .i64 hi) ∧ W.cell? ⟨w3.heap.size, 7, none⟩ = some (.int .i64 to)) (first | assumption | exact HSG.out _ (by repeat (first | with_reducible exact Below.refl _ _ | with_reducible assumption | with_reducible apply grew_ext | with_reducible apply grew_al | with_reducible apply grew_dn | with_reducible apply grew_d | (with_reducible refine grew_set ?_ (by first | omega | (repeat (first | with_reducible exact Nat.le_refl _ | with_reducible apply le_pl | with_reducible apply le_ext | with_reducible apply le_al))) _))))
    (first
    | (go_at_call 30; refine (CO.out _ (RdP.grew P4.out.1 (by repeat (first | with_reducible exact Below.refl _ _ | with_reducible assumption | with_reducible apply grew_ext | with_reducible apply grew_al | with_reducible apply grew_dn | with_reducible apply grew_d | (with_reducible refine grew_set ?_ (by first | omega | (repeat (first | with_reducible exact Nat.le_refl _ | with_reducible apply le_pl | with_reducible apply le_ext | with_reducible apply le_al))) _))))).mono ?_; rintro e wh ⟨rfl, ga⟩; (first | obtain ⟨ya, rfl⟩ := ext_cold ga | obtain ⟨ya, rfl⟩ := ext_col ga | obtain ⟨ya, rfl⟩ := ext_of ga); clear ga)
    | (go_at_call 31; refine (CP.out _ (RdP.grew P4.out.1 (by repeat (first | with_reducible exact Below.refl _ _ | with_reducible assumption | with_reducible apply grew_ext | with_reducible apply grew_al | with_reducible apply grew_dn | with_reducible apply grew_d | (with_reducible refine grew_set ?_ (by first | omega | (repeat (first | with_reducible exact Nat.le_refl _ | with_reducible apply le_pl | with_reducible apply le_ext | with_reducible apply le_al))) _))))).mono ?_; rintro e wh ⟨rfl, gb⟩; (first | obtain ⟨yb, rfl⟩ := ext_cold gb | obtain ⟨yb, rfl⟩ := ext_col gb | obtain ⟨yb, rfl⟩ := ext_of gb); clear gb))
  obtain ⟨w6, hE6⟩ : ∃ X, X = ext (w3.alloc (.cells #[.int .i64 op, .int .i64 d, .int .i64 ia, .int .i64 ib, .int .i64 rel, .int .i64 lo, .int .i64 hi, .int .i64 to] 53)).drew yb := ⟨_, rfl⟩
  rw [← hE6]
  have g6 : Grew (w3.alloc (.cells #[.int .i64 op, .int .i64 d, .int .i64 ia, .int .i64 ib, .int .i64 rel, .int .i64 lo, .int .i64 hi, .int .i64 to] 53)) w6 := by
    rw [hE6]
    repeat (first | with_reducible exact Below.refl _ _ | with_reducible assumption | with_reducible apply grew_ext | with_reducible apply grew_al | with_reducible apply grew_dn | with_reducible apply grew_d | (with_reducible refine grew_set ?_ (by first | omega | (repeat (first | with_reducible exact Nat.le_refl _ | with_reducible apply le_pl | with_reducible apply le_ext | with_reducible apply le_al))) _))
  have P6 := Lib.hid (P4.out.grew g6)
  have B6 := Lib.hid ((B3.out.alloc (.cells #[.int .i64 op, .int .i64 d, .int .i64 ia, .int .i64 ib, .int .i64 rel, .int .i64 lo, .int .i64 hi, .int .i64 to] 53)).grew g6)
  have G6 := Lib.hid (grew_tr G3.out (grew_tr (grew_al (Below.refl _ _) (.cells #[.int .i64 op, .int .i64 d, .int .i64 ia, .int .i64 ib, .int .i64 rel, .int .i64 lo, .int .i64 hi, .int .i64 to] 53)) g6))
  clear hE6 g6 CB CO CP B3 P3 G3 D3 p0 pl d0 d1 d2 d3 d4 d5 d6 d7 dl heq HSG P4
  go_wp2
  go_loopw [10, 11] (fun s i wr => ∃ k S : Nat, k ≤ m ∧ S ≤ 12 * k ∧ S = sizeL (ps.take k) ∧ i = .int .i64 k ∧ s = .int .i64 S ∧ Grew w6 wr) (fun _ i _ => m - (intOf i).toNat)
  case atStart => exact ⟨0, 0, Nat.zero_le _, Nat.zero_le _, rfl, rfl, rfl, Below.refl _ _⟩
  case round =>
    obtain ⟨k, S, hk, hS, hSe, rfl, rfl, hg⟩ := hrel
    have p0 : wr.cell? ⟨b3, 0, none⟩ = some (.slice pa m pc) := (B6.out.grew hg).cell 0
    have pl := (B6.out.grew hg).lt
    by_cases hlt : k < m
    · obtain ⟨b, off, plo, phi, is, pia, pic, rfl, hx, c0, c1, c2, hb, hi1, hi2, hi3⟩ := rdP_at (P6.out.1.grew hg) hlt
      have hil : is.length ≤ 12 := HPL.out _ (List.mem_of_getElem? hx)
      have hil63 : is.length ≤ 9223372036854775807 := by omega
      have HSn := Lib.hid (hSe ▸ (sizeL_take hx).symm : S + is.length = sizeL (ps.take (k + 1)))
      have HX := Lib.hid hx
      have HI := Lib.hid hi1
      have HG := Lib.hid hg
      clear hx hi1 hi2 hi3 hSe hg c0 c1
      obtain ⟨wo, hwo⟩ : ∃ wo : World, wo = wr := ⟨_, rfl⟩
      subst hwo
      have SO : ∀ W, Grew wo W → W.cell? ⟨b3, 0, none⟩ = some (.slice (some ⟨b, off, none⟩) m pc) ∧ W.cell? ⟨b, off + k * 3 + 2, none⟩ = some (.slice pia is.length pic) := fun W h => ⟨(h.cell (p := ⟨b3, 0, none⟩) pl).trans p0, (h.cell (p := ⟨b, off + k * 3 + 2, none⟩) hb).trans c2⟩
      have HSO := Lib.hid SO
      have HPO := Lib.hid (fun W (h : Grew wo W) => (P6.out.1.grew (grew_tr HG.out h) : RdP W (some ⟨b, off, none⟩) m ps))
      clear SO
      go_wp2
      go_loopw [10, 12] (fun s i wr => ∃ j T : Nat, j ≤ is.length ∧ T = S + j ∧ i = .int .i64 j ∧ s = .int .i64 T ∧ Grew wo wr) (fun _ i _ => is.length - (intOf i).toNat)
      case atStart => exact ⟨0, S, Nat.zero_le _, rfl, rfl, rfl, Below.refl _ _⟩
      case round =>
        clear p0 pl c2
        obtain ⟨j, T, hj, hT, rfl, rfl, hg⟩ := hrel
        obtain ⟨p0, c2⟩ := HSO.out _ hg
        have pl : b3 < wr.heap.size := World.block_lt_of_cell? _ _ p0
        have bl : b < wr.heap.size := World.block_lt_of_cell? _ _ c2
        by_cases hlj : j < is.length
        · obtain ⟨ci, coff, op1, d1, ia1, ib1, rel1, lo1, hi1, to1, rfl, hy, e0, e1, e2, e3, e4, e5, e6, e7, hib⟩ := rdI_at (HI.out.grew stays_ins hg) hlj
          have CK := CA.out wr (HPO.out _ hg) k j
          rw [at_some HX.out hy] at CK
          have HCK := Lib.hid (show Calls Try.prog 28 #[.agg #[.slice (some ⟨b, off, none⟩) m pc], .int .i64 k, .int .i64 j] wr fun e w' => e = .returned (.tuple #[.agg #[.int .i64 op1, .int .i64 d1, .int .i64 ia1, .int .i64 ib1, .int .i64 rel1, .int .i64 lo1, .int .i64 hi1, .int .i64 to1], .bool true]) ∧ Grew wr w' from CK)
          have HGj := Lib.hid hg
          have heq1 : insEqB ⟨op1, d1, ia1, ib1, rel1, lo1, hi1, to1⟩ ⟨op1, d1, ia1, ib1, rel1, lo1, hi1, to1⟩ = true := insEq_self _
          have hw1 : IntKind.i64.wrap ((S : Int) + (j : Int) + 1) = (S : Int) + (j : Int) + 1 := by first | exact IntWalk.i64_in (by omega) (by omega) | exact IntWalk.i64_in _ (by omega) (by omega) | go_unwrap
          clear CK hy hg
          go_wp2_with fail
          refine HCK.out.mono ?_
          rintro e w7 ⟨rfl, g7⟩
          obtain ⟨p0', c2'⟩ := HSO.out _ (grew_tr HGj.out g7)
          have pl' : b3 < w7.heap.size := Nat.lt_of_lt_of_le pl g7.size
          have bl' : b < w7.heap.size := Nat.lt_of_lt_of_le bl g7.size
          have il' : ci < w7.heap.size := Nat.lt_of_lt_of_le hib g7.size
          have f0 := (g7.cell (p := ⟨ci, coff + j * 8, none⟩) hib).trans e0
          have f1 := (g7.cell (p := ⟨ci, coff + j * 8 + 1, none⟩) hib).trans e1
          have f2 := (g7.cell (p := ⟨ci, coff + j * 8 + 2, none⟩) hib).trans e2
          have f3 := (g7.cell (p := ⟨ci, coff + j * 8 + 3, none⟩) hib).trans e3
          have f4 := (g7.cell (p := ⟨ci, coff + j * 8 + 4, none⟩) hib).trans e4
          have f5 := (g7.cell (p := ⟨ci, coff + j * 8 + 5, none⟩) hib).trans e5
          have f6 := (g7.cell (p := ⟨ci, coff + j * 8 + 6, none⟩) hib).trans e6
          have f7 := (g7.cell (p := ⟨ci, coff + j * 8 + 7, none⟩) hib).trans e7
          have HG7 := Lib.hid (grew_tr HGj.out g7)
          clear e0 e1 e2 e3 e4 e5 e6 e7 p0 c2 pl bl hib g7
          go_wp2_with fail
          go_quiet (fail)
          go_wp2
          go_roundw
          case rel =>
            have h7 := HG7.out
            exact ⟨j + 1, S + j + 1, by omega, by omega, by go_num, v_int (by omega), by repeat (first | with_reducible exact Below.refl _ _ | with_reducible assumption | with_reducible apply grew_ext | with_reducible apply grew_al | with_reducible apply grew_dn | with_reducible apply grew_d | (with_reducible refine grew_set ?_ (by first | omega | (repeat (first | with_reducible exact Nat.le_refl _ | with_reducible apply le_pl | with_reducible apply le_ext | with_reducible apply le_al))) _))⟩
          case measure => (simp [intOf]; try omega)
        · obtain rfl : j = is.length := by omega
          have CK := fun W (h : Grew wo W) => CA.out W (HPO.out _ h) k (is.length : Nat)
          rw [at_past HX.out] at CK
          have HCK := Lib.hid (fun W (h : Grew wo W) => show Calls Try.prog 28 #[.agg #[.slice (some ⟨b, off, none⟩) m pc], .int .i64 k, .int .i64 (is.length : Nat)] W fun e w' => e = .returned (.tuple #[.agg #[.int .i64 0, .int .i64 0, .int .i64 0, .int .i64 0, .int .i64 0, .int .i64 0, .int .i64 0, .int .i64 0], .bool false]) ∧ Grew W w' from CK W h)
          clear CK
          go_wp2_with fail
          refine region_grow 118 (Rof [prV (fun v => v = .agg #[.slice (some ⟨b, off, none⟩) m pc]), prV (fun v => v = .int .i64 k), prV (fun v => v = .pointer (some ⟨b3, 0, none⟩)), prV (fun v => v = .slice (some ⟨b, off, none⟩) m pc), prV (fun v => v = .int .i64 k), prV (fun v => v = .pointer (some ⟨b, off + k * 3, none⟩)), prV (fun v => v = .pointer (some ⟨b, off + k * 3 + 2, none⟩)), prV (fun v => v = .slice pia is.length pic), prV (fun v => v = .int .i64 (is.length : Nat)), prV (fun v => v = .tuple #[.agg #[.int .i64 0, .int .i64 0, .int .i64 0, .int .i64 0, .int .i64 0, .int .i64 0, .int .i64 0, .int .i64 0], .bool false]), prV (fun v => v = .tuple #[.agg #[.int .i64 0, .int .i64 0, .int .i64 0, .int .i64 0, .int .i64 0, .int .i64 0, .int .i64 0, .int .i64 0], .bool false]), prV (fun v => v = .agg #[.int .i64 0, .int .i64 0, .int .i64 0, .int .i64 0, .int .i64 0, .int .i64 0, .int .i64 0, .int .i64 0]), prV (fun v => v = .bool false), prBx wr.heap.size, prT, prV (fun v => v = .bool false)]) (by kernel_rfl) rfl (by kernel_rfl) ⟨?_, ?_, ?_, ?_, ?_, ?_, ?_, ?_, ?_, ?_, ?_, ?_, ?_, ?_, ?_, ?_, trivial⟩ ?_
          · refine gs_val (.agg #[.slice (some ⟨b, off, none⟩) m pc]) (fun A W hW hf hd => ?_) (fun _ => rfl)
            have e0 : A.eval (.tmp 3) = .pointer (some ⟨b3, 0, none⟩) := hf 3 (hasNo_spec (by kernel_rfl))
            have c0 := (HSO.out W (grew_tr hg hW)).1
            simp only [execOp, e0]
            simp [go_sem, c0]
          · refine gs_val (.int .i64 k) (fun A W hW hf hd => ?_) (fun _ => rfl)
            have e0 : A.eval (.tmp 11) = .int .i64 k := hf 11 (hasNo_spec (by kernel_rfl))
            simp only [execOp, e0]
            rfl
          · refine gs_val (.pointer (some ⟨b3, 0, none⟩)) (fun A W hW hf hd => ?_) (fun _ => rfl)
            have e0 : A.eval (.tmp 3) = .pointer (some ⟨b3, 0, none⟩) := hf 3 (hasNo_spec (by kernel_rfl))
            simp only [execOp, e0]
            first | kernel_rfl | rfl | simp [go_sem]
          · refine gs_val (.slice (some ⟨b, off, none⟩) m pc) (fun A W hW hf hd => ?_) (fun _ => rfl)
            have e0 : A.eval (.tmp 100) = .pointer (some ⟨b3, 0, none⟩) := dep_of (k := 2) (d := 100) ⟨⟨⟨2, .data⟩, by simp, rfl, by kernel_rfl⟩, by kernel_rfl⟩ hd
            have c0 := (HSO.out W (grew_tr hg hW)).1
            simp only [execOp, e0]
            simp [go_sem, c0]
          · refine gs_val (.int .i64 k) (fun A W hW hf hd => ?_) (fun _ => rfl)
            have e0 : A.eval (.tmp 11) = .int .i64 k := hf 11 (hasNo_spec (by kernel_rfl))
            simp only [execOp, e0]
            rfl
          · refine gs_val (.pointer (some ⟨b, off + k * 3, none⟩)) (fun A W hW hf hd => ?_) (fun _ => rfl)
            have e0 : A.eval (.tmp 101) = .slice (some ⟨b, off, none⟩) m pc := dep_of (k := 3) (d := 101) ⟨⟨⟨3, .data⟩, by simp, rfl, by kernel_rfl⟩, by kernel_rfl⟩ hd
            have e1 : A.eval (.tmp 102) = .int .i64 k := dep_of (k := 4) (d := 102) ⟨⟨⟨4, .data⟩, by simp, rfl, by kernel_rfl⟩, by kernel_rfl⟩ hd
            simp only [execOp, e0, e1]
            simp [go_sem, hlt]
          · refine gs_val (.pointer (some ⟨b, off + k * 3 + 2, none⟩)) (fun A W hW hf hd => ?_) (fun _ => rfl)
            have e0 : A.eval (.tmp 103) = .pointer (some ⟨b, off + k * 3, none⟩) := dep_of (k := 5) (d := 103) ⟨⟨⟨5, .data⟩, by simp, rfl, by kernel_rfl⟩, by kernel_rfl⟩ hd
            simp only [execOp, e0]
            simp [go_sem]
          · refine gs_val (.slice pia is.length pic) (fun A W hW hf hd => ?_) (fun _ => rfl)
            have e0 : A.eval (.tmp 104) = .pointer (some ⟨b, off + k * 3 + 2, none⟩) := dep_of (k := 6) (d := 104) ⟨⟨⟨6, .data⟩, by simp, rfl, by kernel_rfl⟩, by kernel_rfl⟩ hd
            have c0 := (HSO.out W (grew_tr hg hW)).2
            simp only [execOp, e0]
            simp [go_sem, c0]
          · refine gs_val (.int .i64 (is.length : Nat)) (fun A W hW hf hd => ?_) (fun _ => rfl)
            have e0 : A.eval (.tmp 105) = .slice pia is.length pic := dep_of (k := 7) (d := 105) ⟨⟨⟨7, .data⟩, by simp, rfl, by kernel_rfl⟩, by kernel_rfl⟩ hd
            simp only [execOp, resolve, invoke, builtin, Sem.run_bind, Sem.run_pure, Result.andThen_ok, List.map_toArray, List.map_cons, List.map_nil, e0]
            simp [go_sem]
          · refine gs_call (f := 28) (vals := #[.agg #[.slice (some ⟨b, off, none⟩) m pc], .int .i64 k, .int .i64 (is.length : Nat)]) (v := .tuple #[.agg #[.int .i64 0, .int .i64 0, .int .i64 0, .int .i64 0, .int .i64 0, .int .i64 0, .int .i64 0, .int .i64 0], .bool false]) (fun A W hW hf hd => ?_) (fun W hW => HCK.out W (grew_tr hg hW)) (fun _ => rfl) (rof_grew _)
            have e0 : A.eval (.tmp 98) = .agg #[.slice (some ⟨b, off, none⟩) m pc] := dep_of (k := 0) (d := 98) ⟨⟨⟨0, .data⟩, by simp, rfl, by kernel_rfl⟩, by kernel_rfl⟩ hd
            have e1 : A.eval (.tmp 99) = .int .i64 k := dep_of (k := 1) (d := 99) ⟨⟨⟨1, .data⟩, by simp, rfl, by kernel_rfl⟩, by kernel_rfl⟩ hd
            have e2 : A.eval (.tmp 106) = .int .i64 (is.length : Nat) := dep_of (k := 8) (d := 106) ⟨⟨⟨8, .data⟩, by simp, rfl, by kernel_rfl⟩, by kernel_rfl⟩ hd
            refine (show _ = Result.ok (Next.enter 28 #[A.eval (.tmp 98), A.eval (.tmp 99), A.eval (.tmp 106)]) W from by kernel_rfl).trans ?_
            rw [e0, e1, e2]
          · refine gs_val (.tuple #[.agg #[.int .i64 0, .int .i64 0, .int .i64 0, .int .i64 0, .int .i64 0, .int .i64 0, .int .i64 0, .int .i64 0], .bool false]) (fun A W hW hf hd => ?_) (fun _ => rfl)
            have e0 : A.eval (.tmp 107) = .tuple #[.agg #[.int .i64 0, .int .i64 0, .int .i64 0, .int .i64 0, .int .i64 0, .int .i64 0, .int .i64 0, .int .i64 0], .bool false] := dep_of (k := 9) (d := 107) ⟨⟨⟨9, .data⟩, by simp, rfl, by kernel_rfl⟩, by kernel_rfl⟩ hd
            simp only [execOp, e0]
            rfl
          · refine gs_val (.agg #[.int .i64 0, .int .i64 0, .int .i64 0, .int .i64 0, .int .i64 0, .int .i64 0, .int .i64 0, .int .i64 0]) (fun A W hW hf hd => ?_) (fun _ => rfl)
            have e0 : A.eval (.tmp 97) = .tuple #[.agg #[.int .i64 0, .int .i64 0, .int .i64 0, .int .i64 0, .int .i64 0, .int .i64 0, .int .i64 0, .int .i64 0], .bool false] := dep_of (k := 10) (d := 97) ⟨⟨⟨10, .data⟩, by simp, rfl, by kernel_rfl⟩, by kernel_rfl⟩ hd
            simp only [execOp, e0]
            simp [go_sem]
          · refine gs_val (.bool false) (fun A W hW hf hd => ?_) (fun _ => rfl)
            have e0 : A.eval (.tmp 97) = .tuple #[.agg #[.int .i64 0, .int .i64 0, .int .i64 0, .int .i64 0, .int .i64 0, .int .i64 0, .int .i64 0, .int .i64 0], .bool false] := dep_of (k := 10) (d := 97) ⟨⟨⟨10, .data⟩, by simp, rfl, by kernel_rfl⟩, by kernel_rfl⟩ hd
            simp only [execOp, e0]
            simp [go_sem]
          · intro A W hW hf hd
            refine op_val (v := .pointer (some ⟨W.heap.size, 0, none⟩)) (w' := W.alloc (.cells #[.int .i64 0, .int .i64 0, .int .i64 0, .int .i64 0, .int .i64 0, .int .i64 0, .int .i64 0, .int .i64 0] 53)) (by kernel_rfl) ⟨_, rfl, ⟨W.heap.size, rfl, BoxN.new _ _ _ _ _ _ _ _ rfl, hW.size⟩, grew_al hW _, fun j u _ hu => rof_grew _ _ _ (grew_al (Below.refl _ _) _) j u hu⟩
          · intro A W hW hf hd
            obtain ⟨t, e0, hb, ht⟩ : ∃ t, A.eval (.tmp 15) = .pointer (some ⟨t, 0, none⟩) ∧ BoxN t W ∧ wr.heap.size ≤ t := dep_of (k := 13) (d := 15) ⟨⟨⟨13, .data⟩, by simp, rfl, by kernel_rfl⟩, by kernel_rfl⟩ hd
            have e1 : A.eval (.tmp 108) = .agg #[.int .i64 0, .int .i64 0, .int .i64 0, .int .i64 0, .int .i64 0, .int .i64 0, .int .i64 0, .int .i64 0] := dep_of (k := 11) (d := 108) ⟨⟨⟨11, .data⟩, by simp, rfl, by kernel_rfl⟩, by kernel_rfl⟩ hd
            have fz := hb.fz
            obtain ⟨u0, u1, u2, u3, u4, u5, u6, u7, c0, c1, c2, c3, c4, c5, c6, c7⟩ := hb.all
            have hb2 := (((((((hb.set0 0).set1 0).set2 0).set3 0).set4 0).set5 0).set6 0).set7 0
            refine op_skip (w' := (((((((W.setCell ⟨t, 0, none⟩ (.int .i64 0)).setCell ⟨t, 1, none⟩ (.int .i64 0)).setCell ⟨t, 2, none⟩ (.int .i64 0)).setCell ⟨t, 3, none⟩ (.int .i64 0)).setCell ⟨t, 4, none⟩ (.int .i64 0)).setCell ⟨t, 5, none⟩ (.int .i64 0)).setCell ⟨t, 6, none⟩ (.int .i64 0)).setCell ⟨t, 7, none⟩ (.int .i64 0)) ?_ ⟨_, rfl, trivial, ?_, fun j u hj hu => ?_⟩
            · simp only [execOp, e0, e1]
              simp [go_sem, fz, c0, c1, c2, c3, c4, c5, c6, c7]
            · exact grew_set (grew_set (grew_set (grew_set (grew_set (grew_set (grew_set (grew_set hW ht _) ht _) ht _) ht _) ht _) ht _) ht _) ht _
            · rcases j with _ | _ | _ | _ | _ | _ | _ | _ | _ | _ | _ | _ | _ | _ | _ | _ | j
              iterate 13 exact rof_prv rfl hu
              · obtain ⟨t', h1, h2, h3⟩ := hu
                refine ⟨t', h1, ?_, h3⟩
                by_cases htt : t' = t
                · subst htt
                  exact hb2
                · exact (((((((h2.far htt _).far htt _).far htt _).far htt _).far htt _).far htt _).far htt _).far htt _
              · exact rof_prv (q := fun _ => True) rfl hu
              · exact rof_prv rfl hu
              · exact rof_prv (q := fun _ => True) rfl hu
          · refine gs_val (.bool false) (fun A W hW hf hd => ?_) (fun _ => rfl)
            have e0 : A.eval (.tmp 109) = .bool false := dep_of (k := 12) (d := 109) ⟨⟨⟨12, .data⟩, by simp, rfl, by kernel_rfl⟩, by kernel_rfl⟩ hd
            simp only [execOp, e0]
            rfl
          rintro vs w8 g8 hR
          have h15 : vs 15 = .bool false := hR 15 16 (by kernel_rfl)
          clear hR
          simp only [putAll, Act.put, List.setIfInBounds_toArray, List.set_cons_zero, List.set_cons_succ, Nat.zero_add, Nat.reduceAdd, h15]
          have HG8 := Lib.hid (grew_tr hg g8)
          clear g8
          go_wp2
          go_roundw
          case rel => exact ⟨k + 1, S + is.length, by omega, by omega, HSn.out, by go_num, v_int (by omega), grew_tr HG.out HG8.out⟩
          case measure => (simp [intOf]; try omega)
    · obtain rfl : k = m := by omega
      have hfin : S = sizeL ps := by rw [hSe, List.take_of_length_le (by have := HML.out; omega)]
      have HPW := Lib.hid (P6.out.1.grew hg)
      have HGW := Lib.hid (grew_tr G6.out hg)
      have HOK := Lib.hid owOkP
      clear hSe hg
      subst hfin
      go_wp2_with (first | ((with_reducible refine (CS.out _ HPW.out).mono ?_); rintro e w' ⟨rfl, g'⟩; (first | obtain ⟨y, rfl⟩ := ext_cold g' | obtain ⟨y, rfl⟩ := ext_col g' | obtain ⟨y, rfl⟩ := ext_of g'); clear g') | ((with_reducible refine (HOK.out _).mono ?_); rintro e w' ⟨rfl, rfl⟩))
      go_ret
      have hgw := HGW.out
      refine ⟨rfl, ?_⟩
      repeat (first | with_reducible exact Below.refl _ _ | with_reducible assumption | with_reducible apply grew_ext | with_reducible apply grew_al | with_reducible apply grew_dn | with_reducible apply grew_d | (with_reducible refine grew_set ?_ (by first | omega | (repeat (first | with_reducible exact Nat.le_refl _ | with_reducible apply le_pl | with_reducible apply le_ext | with_reducible apply le_al))) _))
end Go.Proofs.Ytnjoofpllhbccaa
