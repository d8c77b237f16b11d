/- The walk of the law FnGrfCalls. No condition. -/
import Derived.Test.YtnjoofpllhbccaaDrGd
import Derived.Test.YtnjoofpllhbccaaGt
import Derived.Test.YtnjoofpllhbccaaOw
namespace Go.Proofs.Ytnjoofpllhbccaa
open Go.RowKit
set_option linter.unusedVariables false
set_option linter.unusedSimpArgs false
attribute [local go_sem] ext_cell ext_frozen ext_lt ext_le ext_le1 lt_s2 lt_s3 lt_s4 lt_s5 lt_s6 ext_lt1 ext_lt2 ext_lt3

theorem owOkH (w : World) : Calls Try.prog 18 #[] w fun e w' => e = .returned (.bool true) ∧ w = w' := by
  have C := Lib.hid (fun w => implNumOk 1 w)
  go_enter Try.func18, Try.ntmps18
  go_wp2_with fail
  refine (C.out _).mono ?_
  rintro e w' ⟨rfl, rfl⟩
  go_wp2
  go_ret
  exact ⟨rfl, rfl⟩
theorem grfCalls_no {ps : List Prc} {x : Int} (h : thereB ps x = false) : grfCalls ps x = [] := by rw [grfCalls, h]; rfl
theorem grfCalls_yes {ps : List Prc} {k : Nat} {p : Prc} (h : thereB ps k = true) (hp : ps[k]? = some p) : grfCalls ps k = scomp (callTo p.code) := by rw [grfCalls, h, if_pos rfl, cs_get hp]; rfl
theorem grfCalls_srt (ps : List Prc) (x : Int) : Srt (grfCalls ps x) := by
  unfold grfCalls
  cases h : thereB ps x
  · simp [Srt]
  · rw [if_pos rfl]
    unfold cOf'
    rw [List.getD_eq_getElem?_getD]
    cases hk : (csOf ps)[x.toNat]? with
    | none => simp [Srt]
    | some l =>
      rw [csOf, List.getElem?_map, Option.map_eq_some_iff] at hk
      obtain ⟨p, hp, rfl⟩ := hk
      exact scomp_srt _
/-- Whether one of these steps calls procedure y. -/
def callsB (is : List Ins) (y : Int) : Bool := is.any fun i => i.op == 10 && i.to == y
theorem callsB_mem (is : List Ins) (y : Int) : callsB is y = decide (y ∈ callTo is) := by
  apply Bool.eq_iff_iff.2
  rw [callsB, List.any_eq_true, decide_eq_true_eq, callTo, List.mem_map]
  constructor
  · rintro ⟨i, hi, h⟩
    simp only [Bool.and_eq_true, beq_iff_eq] at h
    exact ⟨i, List.mem_filter.2 ⟨hi, by simp [h.1]⟩, h.2⟩
  · rintro ⟨i, hi, rfl⟩
    obtain ⟨h1, h2⟩ := List.mem_filter.1 hi
    exact ⟨i, h1, by simpa using h2⟩
theorem callsB_snoc (is : List Ins) (i : Ins) (y : Int) : callsB (is ++ [i]) y = (callsB is y || (i.op == 10 && i.to == y)) := by simp [callsB]

set_option maxRecDepth 100000 in
set_option maxHeartbeats 4000000 in
theorem lawFnGrfCalls (a : Option Addr) (n c : Nat) (xs : List Int) (w : World) (hr : Rd w a n 1 (ints .u8 xs)) (hx : Bs xs) (hc : n ≤ c ∧ c ≤ maxLen) :
    Calls Try.prog 8 #[.slice a n c] w fun e w' => e = .returned (.bool true) ∧ Grew w w' := by
  have HR := Lib.hid hr; clear hr
  have HX := Lib.hid hx; clear hx
  by_cases h1 : (n : Int) > 1048576
  · go_enter Try.func8, Try.ntmps8
    go_wp2
    go_ret
    exact ⟨rfl, Below.refl _ _⟩
  go_enter Try.func8, Try.ntmps8
  go_wp2_with fail
  refine (drawGrfCalls a n c xs w HR.out HX.out hc).mono ?_
  rintro e w1 ⟨pa, m, pc, ps, x, rfl, hp, g1⟩
  have hm5 : m ≤ 5 := hp.2.1
  have hm63 : m ≤ 9223372036854775807 := by omega
  have HPL := Lib.hid hp.2.2
  have HML := Lib.hid hp.len
  have B1 := Lib.hid (Blk.new w1 49 #[.slice pa m pc])
  have P1 := Lib.hid (hp.grew (grew_al (Below.refl _ w1) (.cells #[.slice pa m pc] 49)))
  have G1 := Lib.hid (grew_tr g1 (grew_al (Below.refl _ _) (.cells #[.slice pa m pc] 49)))
  have CI := Lib.hid (fun W (h : RdP W pa m ps) => implGrfCalls pa m pc ps x W h hm63)
  have CS := Lib.hid (fun W (h : RdP W pa m ps) => specGrfCalls pa m pc ps x W h hm63)
  have CP := Lib.hid (fun W (h : RdP W pa m ps) => specPrgOk pa m pc ps W h hm63)
  have hll := grfCalls_len ps x
  have HSr := Lib.hid (grfCalls_srt ps x)
  obtain ⟨L, hL⟩ : ∃ L, grfCalls ps x = L := ⟨_, rfl⟩
  rw [hL] at CI CS hll HSr
  have HLL := Lib.hid hL
  clear hp g1 HR HX hL
  obtain ⟨b3, hb3⟩ : ∃ b, w1.heap.size = b := ⟨_, rfl⟩
  rw [hb3] at B1
  go_wp2_with fail
  refine (CI.out _ P1.out.1).mono ?_
  rintro e w2 ⟨la, lc, rfl, o2, g2⟩
  have R2 := Lib.hid (owns_rd o2)
  have B2 := Lib.hid (B1.out.grew g2)
  have P2 := Lib.hid (P1.out.grew g2)
  have G2 := Lib.hid (grew_tr G1.out g2)
  have hlc : L.length ≤ lc ∧ lc ≤ maxLen := owns_cap o2
  clear o2 g2 B1 P1 G1
  have p0 : w2.cell? ⟨b3, 0, none⟩ = some (.slice pa m pc) := B2.out.cell 0
  have pl := B2.out.lt
  try rw [hb3]
  clear hb3
  go_wp2_with fail
  refine (CS.out _ P2.out.1).mono ?_
  rintro e w3 ⟨sa, sc, rfl, o3, g3⟩
  have R3 := Lib.hid (R2.out.grew g3)
  have S3 := Lib.hid (owns_rd o3)
  have B3 := Lib.hid (B2.out.grew g3)
  have P3 := Lib.hid (P2.out.grew g3)
  have G3 := Lib.hid (grew_tr G2.out g3)
  clear o3 g3 B2 P2 G2 R2 p0 pl
  go_wp2_with fail
  refine (owIntsE la L.length lc sa L.length sc L w3 R3.out S3.out (by omega)).mono ?_
  rintro e w4 ⟨rfl, g4⟩
  have R4 := Lib.hid (R3.out.grew g4)
  have B4 := Lib.hid (B3.out.grew g4)
  have P4 := Lib.hid (P3.out.grew g4)
  have G4 := Lib.hid (grew_tr G3.out g4)
  clear g4 B3 P3 G3 R3 S3
  have p0 : w4.cell? ⟨b3, 0, none⟩ = some (.slice pa m pc) := B4.out.cell 0
  have pl := B4.out.lt
  have RP4 : Hid (RdP w4 pa m ps) := Lib.hid P4.out.1
  cases hB : prgOkB ps
  · have hLn : L = [] := by rw [← HLL.out]; exact grfCalls_no (by simp [thereB, hB])
    subst hLn
    have CP2 := CP.out
    rw [hB] at CP2
    have HCP := Lib.hid CP2
    have HOK := Lib.hid owOkH
    clear CP2 CP
    go_wp2_with (first | ((with_reducible refine (HCP.out _ RP4.out).mono ?_); rintro e w' ⟨rfl, g'⟩; (first | obtain ⟨y, rfl⟩ := ext_cold g' | obtain ⟨y, rfl⟩ := ext_col g' | obtain ⟨y, rfl⟩ := ext_of g'); clear g') | ((with_reducible refine (HOK.out _).mono ?_); rintro e w' ⟨rfl, rfl⟩))
    go_ret
    have hg := G4.out
    refine ⟨rfl, ?_⟩
    repeat (first | with_reducible exact Below.refl _ _ | with_reducible assumption | with_reducible apply grew_ext | with_reducible apply grew_al | with_reducible apply grew_dn | with_reducible apply grew_d | (with_reducible refine grew_set ?_ (by first | omega | (repeat (first | with_reducible exact Nat.le_refl _ | with_reducible apply le_pl | with_reducible apply le_ext | with_reducible apply le_al))) _))
  have CP2 := CP.out
  rw [hB] at CP2
  have HCP := Lib.hid CP2
  have HOK := Lib.hid owOkH
  clear CP2 CP
  by_cases h2 : x < 0
  · have hLn : L = [] := by rw [← HLL.out]; exact grfCalls_no (by simp [thereB]; omega)
    subst hLn
    go_wp2_with (first | ((with_reducible refine (HCP.out _ RP4.out).mono ?_); rintro e w' ⟨rfl, g'⟩; (first | obtain ⟨y, rfl⟩ := ext_cold g' | obtain ⟨y, rfl⟩ := ext_col g' | obtain ⟨y, rfl⟩ := ext_of g'); clear g') | ((with_reducible refine (HOK.out _).mono ?_); rintro e w' ⟨rfl, rfl⟩))
    go_ret
    have hg := G4.out
    refine ⟨rfl, ?_⟩
    repeat (first | with_reducible exact Below.refl _ _ | with_reducible assumption | with_reducible apply grew_ext | with_reducible apply grew_al | with_reducible apply grew_dn | with_reducible apply grew_d | (with_reducible refine grew_set ?_ (by first | omega | (repeat (first | with_reducible exact Nat.le_refl _ | with_reducible apply le_pl | with_reducible apply le_ext | with_reducible apply le_al))) _))
  by_cases h3 : x ≥ m
  · have hLn : L = [] := by rw [← HLL.out]; exact grfCalls_no (by have := HML.out; simp [thereB]; omega)
    subst hLn
    go_wp2_with (first | ((with_reducible refine (HCP.out _ RP4.out).mono ?_); rintro e w' ⟨rfl, g'⟩; (first | obtain ⟨y, rfl⟩ := ext_cold g' | obtain ⟨y, rfl⟩ := ext_col g' | obtain ⟨y, rfl⟩ := ext_of g'); clear g') | ((with_reducible refine (HOK.out _).mono ?_); rintro e w' ⟨rfl, rfl⟩))
    go_ret
    have hg := G4.out
    refine ⟨rfl, ?_⟩
    repeat (first | with_reducible exact Below.refl _ _ | with_reducible assumption | with_reducible apply grew_ext | with_reducible apply grew_al | with_reducible apply grew_dn | with_reducible apply grew_d | (with_reducible refine grew_set ?_ (by first | omega | (repeat (first | with_reducible exact Nat.le_refl _ | with_reducible apply le_pl | with_reducible apply le_ext | with_reducible apply le_al))) _))
  obtain ⟨q, rfl⟩ := Int.eq_ofNat_of_zero_le (show 0 ≤ x by omega)
  have hqm : q < m := by omega
  have hq0 : ¬ (q : Int) < 0 := by omega
  have hqd : decide ((q : Int) < 0) = false := decide_eq_false hq0
  have hq1 : ¬ m ≤ q := by omega
  have hq2 : ¬ (m : Int) ≤ (q : Int) := by omega
  have hqe : decide (m ≤ q) = false := decide_eq_false hq1
  have hqf : decide ((m : Int) ≤ (q : Int)) = false := decide_eq_false hq2
  clear h2 h3
  go_wp2_with fail
  refine (HCP.out _ P4.out.1).mono ?_
  rintro e w5 ⟨rfl, g5⟩
  have R5 := Lib.hid (R4.out.grew g5)
  have B5 := Lib.hid (B4.out.grew g5)
  have P5 := Lib.hid (P4.out.grew g5)
  have G5 := Lib.hid (grew_tr G4.out g5)
  clear g5 B4 P4 G4 R4 p0 pl
  have p0 : w5.cell? ⟨b3, 0, none⟩ = some (.slice pa m pc) := B5.out.cell 0
  have pl := B5.out.lt
  obtain ⟨b, off, plo, phi, is, pia, pic, rfl, hx, c0, c1, c2, hb, hi1, hi2, hi3⟩ := rdP_at P5.out.1 hqm
  have hil : is.length ≤ 12 := HPL.out _ (List.mem_of_getElem? hx)
  have hil63 : is.length ≤ 9223372036854775807 := by omega
  have HI := Lib.hid hi1
  have HQ : Hid (∀ y : Int, decide (y ∈ L) = callsB is y) := Lib.hid (fun y => by
    have h := HLL.out
    rw [grfCalls_yes (by have := HML.out; simp [thereB, hB]; omega) hx] at h
    rw [callsB_mem, ← h]
    exact decide_eq_decide.2 (scomp_mem _ _))
  have HHas := Lib.hid (fun (y : Int) (W : World) (h : Grew w5 W) => owHas la L.length lc L y W (R5.out.grew h) (by unfold maxLen at hlc; omega))
  clear hx hi1 hi2 hi3 c0 c1
  go_wp2
  have HG5 := Lib.hid (G5.out)
  have hlen63 : L.length ≤ 9223372036854775807 := by omega
  have HSO := Lib.hid (fun W (h : Grew w5 W) => (⟨(h.cell (p := ⟨b3, 0, none⟩) pl).trans p0, (h.cell (p := ⟨b, off + q * 3 + 2, none⟩) hb).trans c2⟩ : W.cell? ⟨b3, 0, none⟩ = some (.slice (some ⟨b, off, none⟩) m pc) ∧ W.cell? ⟨b, off + q * 3 + 2, none⟩ = some (.slice pia is.length pic)))
  have HRis := Lib.hid (owRising la L.length lc L)
  clear p0 pl c2 hb CI CS HCP HOK HLL G5 B5 P5
  go_loopw [6, 7] (fun i v wr => ∃ k : Nat, k ≤ m ∧ i = .int .i64 k ∧ Grew w5 wr) (fun i _ _ => m - (intOf i).toNat)
  case atStart => exact ⟨0, Nat.zero_le _, rfl, Below.refl _ _⟩
  case round =>
    obtain ⟨k, hk, rfl, hg⟩ := hrel
    obtain ⟨p0, c2⟩ := HSO.out _ hg
    have pl : b3 < wr.heap.size := World.block_lt_of_cell? _ _ p0
    have bl : b < wr.heap.size := World.block_lt_of_cell? _ _ c2
    by_cases hlt : k < m
    · obtain ⟨wo, hwo⟩ : ∃ wo : World, wo = wr := ⟨_, rfl⟩
      subst hwo
      have HGo := Lib.hid hg
      clear hg
      go_wp2
      go_loopw [7, 8] (fun v i wr => ∃ j : Nat, j ≤ is.length ∧ i = .int .i64 j ∧ v = .bool (callsB (is.take j) k) ∧ Grew wo wr) (fun _ i _ => is.length - (intOf i).toNat)
      case atStart => exact ⟨0, Nat.zero_le _, rfl, rfl, Below.refl _ _⟩
      case round =>
        clear p0 c2 pl bl
        obtain ⟨j, hj, rfl, rfl, hg⟩ := hrel
        obtain ⟨p0, c2⟩ := HSO.out _ (grew_tr HGo.out hg)
        have pl : b3 < wr.heap.size := World.block_lt_of_cell? _ _ p0
        have bl : b < wr.heap.size := World.block_lt_of_cell? _ _ c2
        by_cases hlj : j < is.length
        · obtain ⟨ci, coff, op1, d1, ia1, ib1, rel1, lo1, hi1, to1, rfl, hy, e0, e1, e2, e3, e4, e5, e6, e7, hib⟩ := rdI_at (HI.out.grew stays_ins (grew_tr HGo.out hg)) hlj
          have hsn : callsB (is.take (j + 1)) k = (callsB (is.take j) k || (op1 == 10 && to1 == k)) := by
            rw [List.take_add_one, hy]
            exact callsB_snoc _ _ _
          have HSn := Lib.hid hsn
          have HGj := Lib.hid hg
          obtain ⟨B, hBe⟩ : ∃ B, callsB (is.take j) k = B := ⟨_, rfl⟩
          rw [hBe] at HSn
          simp only [hBe]
          clear hsn hy hg e1 e2 e3 e4 e5 e6 hBe
          cases B
          · by_cases hop : op1 = 10
            · subst hop
              go_wp2
              go_roundw
              case rel =>
                have h7 := HGj.out
                exact ⟨j + 1, by omega, by go_num, by rw [HSn.out]; first | rfl | (simp; done) | (simp; rfl), by first | exact h7 | repeat (first | with_reducible exact Below.refl _ _ | with_reducible assumption | with_reducible apply grew_ext | with_reducible apply grew_al | with_reducible apply grew_dn | with_reducible apply grew_d | (with_reducible refine grew_set ?_ (by first | omega | (repeat (first | with_reducible exact Nat.le_refl _ | with_reducible apply le_pl | with_reducible apply le_ext | with_reducible apply le_al))) _))⟩
              case measure => (simp [intOf]; try omega)
            · have hop1 : (op1 == 10) = false := by simpa using hop
              go_wp2
              go_roundw
              case rel =>
                have h7 := HGj.out
                exact ⟨j + 1, by omega, by go_num, by rw [HSn.out]; simp [hop1], by first | exact h7 | repeat (first | with_reducible exact Below.refl _ _ | with_reducible assumption | with_reducible apply grew_ext | with_reducible apply grew_al | with_reducible apply grew_dn | with_reducible apply grew_d | (with_reducible refine grew_set ?_ (by first | omega | (repeat (first | with_reducible exact Nat.le_refl _ | with_reducible apply le_pl | with_reducible apply le_ext | with_reducible apply le_al))) _))⟩
              case measure => (simp [intOf]; try omega)
          · go_wp2
            go_roundw
            case rel =>
              have h7 := HGj.out
              exact ⟨j + 1, by omega, by go_num, by rw [HSn.out]; simp, by first | exact h7 | repeat (first | with_reducible exact Below.refl _ _ | with_reducible assumption | with_reducible apply grew_ext | with_reducible apply grew_al | with_reducible apply grew_dn | with_reducible apply grew_d | (with_reducible refine grew_set ?_ (by first | omega | (repeat (first | with_reducible exact Nat.le_refl _ | with_reducible apply le_pl | with_reducible apply le_ext | with_reducible apply le_al))) _))⟩
            case measure => (simp [intOf]; try omega)
        · obtain rfl : j = is.length := by omega
          have hh := HHas.out k _ (grew_tr HGo.out hg)
          rw [HQ.out k] at hh
          have HH := Lib.hid hh
          have HGj := Lib.hid (grew_tr HGo.out hg)
          rw [List.take_length]
          obtain ⟨B, hBe⟩ : ∃ B, callsB is k = B := ⟨_, rfl⟩
          rw [hBe] at HH
          simp only [hBe]
          clear hh hg hBe
          go_wp2_with fail
          refine HH.out.mono ?_
          rintro e w9 ⟨rfl, rfl⟩
          go_wp2
          go_roundw
          case rel =>
            have h7 := HGj.out
            first
            | exact ⟨k + 1, by omega, by go_num, h7⟩
          case measure => (simp [intOf]; try omega)
    · obtain rfl : k = m := by omega
      have hri := HRis.out wr (R5.out.grew hg) (by omega) HSr.out
      have HRI := Lib.hid hri
      have HGw := Lib.hid (grew_tr HG5.out hg)
      clear hri hg
      go_wp2_with fail
      refine HRI.out.mono ?_
      rintro e w9 ⟨rfl, g9⟩
      go_wp2
      go_ret
      exact ⟨rfl, grew_tr HGw.out g9⟩
end Go.Proofs.Ytnjoofpllhbccaa
