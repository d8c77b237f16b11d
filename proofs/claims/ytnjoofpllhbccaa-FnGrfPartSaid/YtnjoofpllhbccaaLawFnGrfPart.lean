/- Lemmas and walks of this proof, some texts one behind the other. No condition. -/
import Derived.Test.YtnjoofpllhbccaaLawFnGrfCalls
import Derived.Test.YtnjoofpllhbccaaDrGd
set_option linter.unusedSimpArgs false
set_option linter.unusedVariables false
/- The walk of the law FnGrfReach. No condition. -/
namespace Go.Proofs.Ytnjoofpllhbccaa
open Go.RowKit
set_option linter.unusedVariables false
set_option linter.unusedSimpArgs false
attribute [local go_sem] ext_cell ext_frozen ext_lt ext_le ext_le1 lt_s2 lt_s3 lt_s4 lt_s5 lt_s6 ext_lt1 ext_lt2 ext_lt3

theorem grfReach_no {ps : List Prc} {x : Int} (h : thereB ps x = false) : grfReach ps x = [] := by rw [grfReach, h]; rfl
theorem grfReach_yes {ps : List Prc} {x : Int} (h : thereB ps x = true) : Srt (grfReach ps x) ∧ ∀ y, y ∈ grfReach ps x ↔ Rch (cOf' (csOf ps)) x y := by
  obtain ⟨h1, h2⟩ := thereB_yes h
  rw [grfReach, h, if_pos rfl]
  exact reachL_spec (gok_of h1) (by rw [csOf_len]; exact h2)
theorem grfReach_srt (ps : List Prc) (x : Int) : Srt (grfReach ps x) := by
  cases h : thereB ps x
  · rw [grfReach_no h]; simp [Srt]
  · exact (grfReach_yes h).1
theorem rch_in {ps : List Prc} {x y : Int} (hp : prgOkB ps = true) (hx : 0 ≤ x ∧ x < ps.length) (h : Rch (cOf' (csOf ps)) x y) : 0 ≤ y ∧ y < ps.length := by
  induction h with
  | refl => exact hx
  | step _ h2 ih => have := gok_of hp _ _ h2; rw [csOf_len] at this; exact this
theorem grfCalls_c {ps : List Prc} {y : Int} (hp : prgOkB ps = true) (hy : 0 ≤ y ∧ y < ps.length) : grfCalls ps y = cOf' (csOf ps) y := by
  rw [grfCalls, if_pos]
  simp [thereB, hp, hy.1, hy.2]
/-- Whether one of these calls y. -/
def calledB (ps : List Prc) (l : List Int) (y : Int) : Bool := l.any fun i => decide (y ∈ grfCalls ps i)

set_option maxRecDepth 100000 in
set_option maxHeartbeats 4000000 in
theorem lawFnGrfReach (a : Option Addr) (n c : Nat) (xs : List Int) (w : World) (hr : Rd w a n 1 (ints .u8 xs)) (hx : Bs xs) (hc : n ≤ c ∧ c ≤ maxLen) :
    Calls Try.prog 9 #[.slice a n c] w fun e w' => e = .returned (.bool true) ∧ Grew w w' := by
  have HR := Lib.hid hr; clear hr
  have HX := Lib.hid hx; clear hx
  by_cases h1 : (n : Int) > 1048576
  · go_enter Try.func9, Try.ntmps9
    go_wp2
    go_ret
    exact ⟨rfl, Below.refl _ _⟩
  go_enter Try.func9, Try.ntmps9
  go_wp2_with fail
  refine (drawGrfReach a n c xs w HR.out HX.out hc).mono ?_
  rintro e w1 ⟨pa, m, pc, ps, x, rfl, hp, g1⟩
  have hm5 : m ≤ 5 := hp.2.1
  have hm63 : m ≤ 9223372036854775807 := by omega
  have HPL := Lib.hid hp.2.2
  have HML := Lib.hid hp.len
  have B1 := Lib.hid (Blk.new w1 49 #[.slice pa m pc])
  have P1 := Lib.hid (hp.grew (grew_al (Below.refl _ w1) (.cells #[.slice pa m pc] 49)))
  have G1 := Lib.hid (grew_tr g1 (grew_al (Below.refl _ _) (.cells #[.slice pa m pc] 49)))
  have CI := Lib.hid (fun W (h : RdP W pa m ps) => implGrfReach pa m pc ps x W h hm63)
  have CS := Lib.hid (fun W (h : RdP W pa m ps) => specGrfReach pa m pc ps x W h hm63)
  have CC := Lib.hid (fun W (h : RdP W pa m ps) (y : Int) => implGrfCalls pa m pc ps y W h hm63)
  have CP := Lib.hid (fun W (h : RdP W pa m ps) => specPrgOk pa m pc ps W h hm63)
  have hll := grfReach_len ps x
  have HSr := Lib.hid (grfReach_srt ps x)
  obtain ⟨L, hL⟩ : ∃ L, grfReach ps x = L := ⟨_, rfl⟩
  rw [hL] at CI CS hll HSr
  have HLL := Lib.hid hL
  clear hp g1 HR HX hL
  obtain ⟨b3, hb3⟩ : ∃ b, w1.heap.size = b := ⟨_, rfl⟩
  rw [hb3] at B1
  go_wp2_with fail
  refine (CI.out _ P1.out.1).mono ?_
  rintro e w2 ⟨la, lc, rfl, o2, g2⟩
  have R2 := Lib.hid (owns_rd o2)
  have B2 := Lib.hid (B1.out.grew g2)
  have P2 := Lib.hid (P1.out.grew g2)
  have G2 := Lib.hid (grew_tr G1.out g2)
  have hlc : L.length ≤ lc ∧ lc ≤ maxLen := owns_cap o2
  clear o2 g2 B1 P1 G1
  have p0 : w2.cell? ⟨b3, 0, none⟩ = some (.slice pa m pc) := B2.out.cell 0
  have pl := B2.out.lt
  try rw [hb3]
  clear hb3
  go_wp2_with fail
  refine (CS.out _ P2.out.1).mono ?_
  rintro e w3 ⟨sa, sc, rfl, o3, g3⟩
  have R3 := Lib.hid (R2.out.grew g3)
  have S3 := Lib.hid (owns_rd o3)
  have B3 := Lib.hid (B2.out.grew g3)
  have P3 := Lib.hid (P2.out.grew g3)
  have G3 := Lib.hid (grew_tr G2.out g3)
  clear o3 g3 B2 P2 G2 R2 p0 pl
  go_wp2_with fail
  refine (owIntsE la L.length lc sa L.length sc L w3 R3.out S3.out (by omega)).mono ?_
  rintro e w4 ⟨rfl, g4⟩
  have R4 := Lib.hid (R3.out.grew g4)
  have B4 := Lib.hid (B3.out.grew g4)
  have P4 := Lib.hid (P3.out.grew g4)
  have G4 := Lib.hid (grew_tr G3.out g4)
  clear g4 B3 P3 G3 R3 S3
  have p0 : w4.cell? ⟨b3, 0, none⟩ = some (.slice pa m pc) := B4.out.cell 0
  have pl := B4.out.lt
  have RP4 : Hid (RdP w4 pa m ps) := Lib.hid P4.out.1
  cases hB : prgOkB ps
  · have hLn : L = [] := by rw [← HLL.out]; exact grfReach_no (by simp [thereB, hB])
    subst hLn
    have CP2 := CP.out
    rw [hB] at CP2
    have HCP := Lib.hid CP2
    have HOK := Lib.hid owOkH
    clear CP2 CP
    go_wp2_with (first | ((with_reducible refine (HCP.out _ RP4.out).mono ?_); rintro e w' ⟨rfl, g'⟩; (first | obtain ⟨y, rfl⟩ := ext_cold g' | obtain ⟨y, rfl⟩ := ext_col g' | obtain ⟨y, rfl⟩ := ext_of g'); clear g') | ((with_reducible refine (HOK.out _).mono ?_); rintro e w' ⟨rfl, rfl⟩))
    go_ret
    have hg := G4.out
    refine ⟨rfl, ?_⟩
    repeat (first | with_reducible exact Below.refl _ _ | with_reducible assumption | with_reducible apply grew_ext | with_reducible apply grew_al | with_reducible apply grew_dn | with_reducible apply grew_d | (with_reducible refine grew_set ?_ (by first | omega | (repeat (first | with_reducible exact Nat.le_refl _ | with_reducible apply le_pl | with_reducible apply le_ext | with_reducible apply le_al))) _))
  have CP2 := CP.out
  rw [hB] at CP2
  have HCP := Lib.hid CP2
  have HOK := Lib.hid owOkH
  clear CP2 CP
  by_cases h2 : x < 0
  · have hLn : L = [] := by rw [← HLL.out]; exact grfReach_no (by simp [thereB]; omega)
    subst hLn
    go_wp2_with (first | ((with_reducible refine (HCP.out _ RP4.out).mono ?_); rintro e w' ⟨rfl, g'⟩; (first | obtain ⟨y, rfl⟩ := ext_cold g' | obtain ⟨y, rfl⟩ := ext_col g' | obtain ⟨y, rfl⟩ := ext_of g'); clear g') | ((with_reducible refine (HOK.out _).mono ?_); rintro e w' ⟨rfl, rfl⟩))
    go_ret
    have hg := G4.out
    refine ⟨rfl, ?_⟩
    repeat (first | with_reducible exact Below.refl _ _ | with_reducible assumption | with_reducible apply grew_ext | with_reducible apply grew_al | with_reducible apply grew_dn | with_reducible apply grew_d | (with_reducible refine grew_set ?_ (by first | omega | (repeat (first | with_reducible exact Nat.le_refl _ | with_reducible apply le_pl | with_reducible apply le_ext | with_reducible apply le_al))) _))
  by_cases h3 : x ≥ m
  · have hLn : L = [] := by rw [← HLL.out]; exact grfReach_no (by have := HML.out; simp [thereB]; omega)
    subst hLn
    go_wp2_with (first | ((with_reducible refine (HCP.out _ RP4.out).mono ?_); rintro e w' ⟨rfl, g'⟩; (first | obtain ⟨y, rfl⟩ := ext_cold g' | obtain ⟨y, rfl⟩ := ext_col g' | obtain ⟨y, rfl⟩ := ext_of g'); clear g') | ((with_reducible refine (HOK.out _).mono ?_); rintro e w' ⟨rfl, rfl⟩))
    go_ret
    have hg := G4.out
    refine ⟨rfl, ?_⟩
    repeat (first | with_reducible exact Below.refl _ _ | with_reducible assumption | with_reducible apply grew_ext | with_reducible apply grew_al | with_reducible apply grew_dn | with_reducible apply grew_d | (with_reducible refine grew_set ?_ (by first | omega | (repeat (first | with_reducible exact Nat.le_refl _ | with_reducible apply le_pl | with_reducible apply le_ext | with_reducible apply le_al))) _))
  obtain ⟨q, rfl⟩ := Int.eq_ofNat_of_zero_le (show 0 ≤ x by omega)
  have hqm : q < m := by omega
  have hq0 : ¬ (q : Int) < 0 := by omega
  have hqd : decide ((q : Int) < 0) = false := decide_eq_false hq0
  have hq1 : ¬ m ≤ q := by omega
  have hq2 : ¬ (m : Int) ≤ (q : Int) := by omega
  have hqe : decide (m ≤ q) = false := decide_eq_false hq1
  have hqf : decide ((m : Int) ≤ (q : Int)) = false := decide_eq_false hq2
  clear h2 h3
  go_wp2_with fail
  refine (HCP.out _ P4.out.1).mono ?_
  rintro e w5 ⟨rfl, g5⟩
  have R5 := Lib.hid (R4.out.grew g5)
  have B5 := Lib.hid (B4.out.grew g5)
  have P5 := Lib.hid (P4.out.grew g5)
  have G5 := Lib.hid (grew_tr G4.out g5)
  clear g5 B4 P4 G4 R4 p0 pl
  have p0 : w5.cell? ⟨b3, 0, none⟩ = some (.slice pa m pc) := B5.out.cell 0
  have pl := B5.out.lt
  have HP := Lib.hid hB
  have HX0 : Hid (0 ≤ (q : Int) ∧ (q : Int) < ps.length) := Lib.hid (by have := HML.out; omega)
  have HRS := Lib.hid (show Srt L ∧ ∀ y, y ∈ L ↔ Rch (cOf' (csOf ps)) q y from by
    have h := grfReach_yes (ps := ps) (x := q) (by have := HML.out; simp [thereB, hB]; omega)
    rw [HLL.out] at h
    exact h)
  have hself : (q : Int) ∈ L := (HRS.out.2 _).2 .refl
  have HHas := Lib.hid (fun (y : Int) (W : World) (h : Grew w5 W) => owHas la L.length lc L y W (R5.out.grew h) (by unfold maxLen at hlc; omega))
  have HC1 := Lib.hid (show Calls Try.prog 50 #[.slice la L.length lc, .int .i64 q] w5 (fun e w' => e = .returned (.bool true) ∧ w5 = w') from by
    have h := HHas.out q w5 (Below.refl _ _)
    rwa [decide_eq_true hself] at h)
  have HRis := Lib.hid (owRising la L.length lc L w5 R5.out (by omega) HSr.out)
  clear CI CS HCP HOK hself
  go_wp2_with fail
  refine HC1.out.mono ?_
  rintro e w6 ⟨rfl, rfl⟩
  go_wp2_with fail
  refine HRis.out.mono ?_
  rintro e w6 ⟨rfl, g6⟩
  have R6 := Lib.hid (R5.out.grew g6)
  have B6 := Lib.hid (B5.out.grew g6)
  have P6 := Lib.hid (P5.out.grew g6)
  have G6 := Lib.hid (grew_tr G5.out g6)
  clear g6 B5 P5 G5 R5 p0 pl HC1 HRis HHas
  have hlen63 : L.length ≤ 9223372036854775807 := by omega
  have pl6 := B6.out.lt
  have p06 : w6.cell? ⟨b3, 0, none⟩ = some (.slice pa m pc) := B6.out.cell 0
  have HSO := Lib.hid (fun W (h : Grew w6 W) => (h.cell (p := ⟨b3, 0, none⟩) pl6).trans p06)
  have HHas := Lib.hid (fun (y : Int) (W : World) (h : Grew w6 W) => owHas la L.length lc L y W (R6.out.grew h) (by unfold maxLen at hlc; omega))
  clear pl6 p06 B6 HLL
  go_wp2
  go_loopw [6, 7, 8, 9, 10] (fun i v7 v8 v9 v10 wr => ∃ k : Nat, k ≤ L.length ∧ i = .int .i64 k ∧ Grew w6 wr) (fun i _ _ _ _ _ => L.length - (intOf i).toNat)
  case atStart => exact ⟨0, Nat.zero_le _, rfl, Below.refl _ _⟩
  case round =>
    obtain ⟨k, hk, rfl, hg⟩ := hrel
    by_cases hlt : k < L.length
    · obtain ⟨lb, loff, y, rfl, hy, hcy⟩ := (R6.out.grew hg).at1 hlt
      have hyL : y ∈ L := List.mem_of_getElem? hy
      have hyn := rch_in HP.out HX0.out ((HRS.out.2 _).1 hyL)
      have HM : Hid (∀ z, z ∈ grfCalls ps y → z ∈ L) := Lib.hid (fun z hz => by
        rw [grfCalls_c HP.out hyn] at hz
        exact (HRS.out.2 _).2 (((HRS.out.2 _).1 hyL).step hz))
      have HE : Hid (((y == (q : Int)) || calledB ps L y) = true) := Lib.hid (by
        by_cases hyq : y = (q : Int)
        · simp [hyq]
        · have hr := (HRS.out.2 _).1 hyL
          cases hr with
          | refl => exact absurd rfl hyq
          | @step b' _ h1' h2' =>
            have hb' := (HRS.out.2 _).2 h1'
            have : calledB ps L y = true := by
              rw [calledB, List.any_eq_true]
              exact ⟨b', hb', by rw [grfCalls_c HP.out (rch_in HP.out HX0.out h1')]; exact decide_eq_true h2'⟩
            rw [this, Bool.or_true])
      have hlb : lb < wr.heap.size := World.block_lt_of_cell? _ _ hcy
      have HG := Lib.hid hg
      have HY := Lib.hid hy
      obtain ⟨wo, hwo⟩ : ∃ wo : World, wo = wr := ⟨_, rfl⟩
      subst hwo
      have HCY := Lib.hid (fun W (h : Grew wo W) => (⟨HSO.out _ (grew_tr HG.out h), (h.cell (p := ⟨lb, loff + k, none⟩) hlb).trans hcy⟩ : W.cell? ⟨b3, 0, none⟩ = some (.slice pa m pc) ∧ W.cell? ⟨lb, loff + k, none⟩ = some (.int .i64 y)))
      have HCC := Lib.hid (fun W (h : Grew wo W) => CC.out W (P6.out.1.grew (grew_tr HG.out h)) y)
      have hMl := grfCalls_len ps y
      obtain ⟨M, hM⟩ : ∃ M, grfCalls ps y = M := ⟨_, rfl⟩
      rw [hM] at HCC HM hMl
      clear hg hy hcy hlb hM hyL hyn
      go_wp2_with fail
      go_region_held3 (fun W => W.cell? ⟨b3, 0, none⟩ = some (.slice pa m pc) ∧ W.cell? ⟨lb, loff + k, none⟩ = some (.int .i64 y)) (first | assumption | exact HCY.out _ (by repeat (first | with_reducible exact Below.refl _ _ | with_reducible assumption | with_reducible apply grew_ext | with_reducible apply grew_al | with_reducible apply grew_dn | with_reducible apply grew_d | (with_reducible refine grew_set ?_ (by first | omega | (repeat (first | with_reducible exact Nat.le_refl _ | with_reducible apply le_pl | with_reducible apply le_ext | with_reducible apply le_al))) _))))
        (first
        | (go_at_call 48; refine (HCC.out _ (by repeat (first | with_reducible exact Below.refl _ _ | with_reducible assumption | with_reducible apply grew_ext | with_reducible apply grew_al | with_reducible apply grew_dn | with_reducible apply grew_d | (with_reducible refine grew_set ?_ (by first | omega | (repeat (first | with_reducible exact Nat.le_refl _ | with_reducible apply le_pl | with_reducible apply le_ext | with_reducible apply le_al))) _)))).mono ?_; rintro e wh ⟨ca, cc, rfl, oc, ga⟩; have RC := Lib.hid (owns_rd oc); clear oc; (first | obtain ⟨ya, rfl⟩ := ext_cold ga | obtain ⟨ya, rfl⟩ := ext_col ga | obtain ⟨ya, rfl⟩ := ext_of ga); clear ga))
      obtain ⟨w8, hE8⟩ : ∃ X, X = ext wo.drew ya := ⟨_, rfl⟩
      have RC := RC.out
      rw [← hE8] at RC ⊢
      have RC := Lib.hid RC
      have HG8 : Hid (Grew wo w8) := Lib.hid (by rw [hE8]; repeat (first | with_reducible exact Below.refl _ _ | with_reducible assumption | with_reducible apply grew_ext | with_reducible apply grew_al | with_reducible apply grew_dn | with_reducible apply grew_d | (with_reducible refine grew_set ?_ (by first | omega | (repeat (first | with_reducible exact Nat.le_refl _ | with_reducible apply le_pl | with_reducible apply le_ext | with_reducible apply le_al))) _)))
      clear hE8
      have hcc63 : M.length ≤ 9223372036854775807 := by omega
      go_wp2
      go_loopw [8] (fun i wr => ∃ j : Nat, j ≤ M.length ∧ i = .int .i64 j ∧ Grew w8 wr) (fun i _ => M.length - (intOf i).toNat)
      case atStart => exact ⟨0, Nat.zero_le _, rfl, Below.refl _ _⟩
      case round =>
        obtain ⟨j, hj, rfl, hg⟩ := hrel
        have HGj := Lib.hid hg
        clear hg
        by_cases hlj : j < M.length
        · obtain ⟨cb, coff, z, rfl, hz, hcz⟩ := (RC.out.grew HGj.out).at1 hlj
          have hzL := HM.out _ (List.mem_of_getElem? hz)
          have hh := HHas.out z _ (grew_tr HG.out (grew_tr HG8.out HGj.out))
          rw [decide_eq_true hzL] at hh
          have HH := Lib.hid hh
          clear hh hzL hz
          go_wp2_with fail
          refine HH.out.mono ?_
          rintro e w9 ⟨rfl, rfl⟩
          go_wp2
          go_roundw
          case rel => exact ⟨j + 1, by omega, by go_num, HGj.out⟩
          case measure => (simp [intOf]; try omega)
        · obtain rfl : j = M.length := by omega
          obtain ⟨q0, q1⟩ := HCY.out _ (grew_tr HG8.out HGj.out)
          obtain ⟨wb, hwb⟩ : ∃ wb : World, wb = wr := ⟨_, rfl⟩
          subst hwb
          have HGb := Lib.hid (grew_tr HG8.out HGj.out)
          clear HGj
          go_wp2
          go_loopw [9, 10] (fun v i wr => ∃ j : Nat, j ≤ L.length ∧ i = .int .i64 j ∧ v = .bool ((y == (q : Int)) || calledB ps (L.take j) y) ∧ Grew wb wr) (fun _ i _ => L.length - (intOf i).toNat)
          case atStart => exact ⟨0, Nat.zero_le _, rfl, by simp [calledB], Below.refl _ _⟩
          case round =>
            clear q0 q1
            obtain ⟨j, hj, rfl, rfl, hg⟩ := hrel
            have HGj := Lib.hid (grew_tr HGb.out hg)
            have hgb := hg
            clear hg
            by_cases hlj : j < L.length
            · obtain ⟨lb', loff', u, hab, hu, hcu⟩ := (R6.out.grew (grew_tr HG.out HGj.out)).at1 hlj
              obtain ⟨rfl, rfl⟩ : lb = lb' ∧ loff = loff' := by cases hab; exact ⟨rfl, rfl⟩
              have hsn : calledB ps (L.take (j + 1)) y = (calledB ps (L.take j) y || decide (y ∈ grfCalls ps u)) := by
                rw [List.take_add_one, hu]
                simp [calledB]
              have HSn := Lib.hid hsn
              obtain ⟨B, hBe⟩ : ∃ B, ((y == (q : Int)) || calledB ps (L.take j) y) = B := ⟨_, rfl⟩
              have HBe := Lib.hid hBe
              simp only [hBe]
              clear hsn hu hBe hab
              have hlu : lb < wr.heap.size := World.block_lt_of_cell? _ _ hcu
              have HC2 := Lib.hid (fun W (h : Grew wr W) => (⟨(HCY.out _ (grew_tr HGj.out h)).1, (HCY.out _ (grew_tr HGj.out h)).2, (h.cell (p := ⟨lb, loff + j, none⟩) hlu).trans hcu⟩ : W.cell? ⟨b3, 0, none⟩ = some (.slice pa m pc) ∧ W.cell? ⟨lb, loff + k, none⟩ = some (.int .i64 y) ∧ W.cell? ⟨lb, loff + j, none⟩ = some (.int .i64 u)))
              cases B
              · have HCu := Lib.hid (fun W (h : Grew wr W) => CC.out W (P6.out.1.grew (grew_tr HG.out (grew_tr HGj.out h))) u)
                have hUl := grfCalls_len ps u
                obtain ⟨U, hU⟩ : ∃ U, grfCalls ps u = U := ⟨_, rfl⟩
                have HSn2 := HSn.out
                rw [hU] at HCu hUl HSn2
                have HSn2 := Lib.hid HSn2
                clear HSn hU hcu
                go_wp2_with fail
                go_region_held3 (fun W => W.cell? ⟨b3, 0, none⟩ = some (.slice pa m pc) ∧ W.cell? ⟨lb, loff + k, none⟩ = some (.int .i64 y) ∧ W.cell? ⟨lb, loff + j, none⟩ = some (.int .i64 u)) (first | assumption | exact HC2.out _ (by repeat (first | with_reducible exact Below.refl _ _ | with_reducible assumption | with_reducible apply grew_ext | with_reducible apply grew_al | with_reducible apply grew_dn | with_reducible apply grew_d | (with_reducible refine grew_set ?_ (by first | omega | (repeat (first | with_reducible exact Nat.le_refl _ | with_reducible apply le_pl | with_reducible apply le_ext | with_reducible apply le_al))) _))))
                  (first
                  | (go_at_call 48; refine (HCu.out _ (by repeat (first | with_reducible exact Below.refl _ _ | with_reducible assumption | with_reducible apply grew_ext | with_reducible apply grew_al | with_reducible apply grew_dn | with_reducible apply grew_d | (with_reducible refine grew_set ?_ (by first | omega | (repeat (first | with_reducible exact Nat.le_refl _ | with_reducible apply le_pl | with_reducible apply le_ext | with_reducible apply le_al))) _)))).mono ?_; rintro e wh ⟨ua, uc, rfl, oc, ga⟩; have hua := (owns_cap oc); have RU := Lib.hid (owns_rd oc); clear oc; (first | obtain ⟨yu, rfl⟩ := ext_cold ga | obtain ⟨yu, rfl⟩ := ext_col ga | obtain ⟨yu, rfl⟩ := ext_of ga); clear ga)
                  | (go_at_call 50; refine (owHas ua U.length uc U y _ RU.out (by unfold maxLen at hua; omega)).mono ?_; rintro e wh ⟨rfl, rfl⟩))
                go_wp2
                go_roundw
                case rel => exact ⟨j + 1, by omega, by go_num, by rw [HSn2.out, ← Bool.or_assoc, HBe.out, Bool.false_or], grew_tr hgb (by repeat (first | with_reducible exact Below.refl _ _ | with_reducible assumption | with_reducible apply grew_ext | with_reducible apply grew_al | with_reducible apply grew_dn | with_reducible apply grew_d | (with_reducible refine grew_set ?_ (by first | omega | (repeat (first | with_reducible exact Nat.le_refl _ | with_reducible apply le_pl | with_reducible apply le_ext | with_reducible apply le_al))) _)))⟩
                case measure => (simp [intOf]; try omega)
              · go_wp2_with fail
                refine wp_region_held_drew (S := (fun W => W.cell? ⟨b3, 0, none⟩ = some (.slice pa m pc) ∧ W.cell? ⟨lb, loff + k, none⟩ = some (.int .i64 y) ∧ W.cell? ⟨lb, loff + j, none⟩ = some (.int .i64 u))) (by kernel_rfl) ?_ (fun hHeld => ?_)
                · (try dsimp only); (first | assumption | exact HC2.out _ (by repeat (first | with_reducible exact Below.refl _ _ | with_reducible assumption | with_reducible apply grew_ext | with_reducible apply grew_al | with_reducible apply grew_dn | with_reducible apply grew_d | (with_reducible refine grew_set ?_ (by first | omega | (repeat (first | with_reducible exact Nat.le_refl _ | with_reducible apply le_pl | with_reducible apply le_ext | with_reducible apply le_al))) _))))
                refine wpAnyH_take (i := 0) (v := ?_) rfl (by kernel_rfl) (by kernel_rfl) (by kernel_rfl) (fun _ _ _ h => h) (Or.inl ⟨by rfl, ?_⟩) (by assumption) ?_
                rotate_left
                · (intro w hSw; (try dsimp only at hSw); go_simp; try with_reducible rfl)
                try simp only [List.getElem_toArray, List.getElem_cons_succ, List.getElem_cons_zero, Act.put, List.setIfInBounds_toArray, List.set_cons_zero, List.set_cons_succ]
                refine wpAnyH_take (i := 1) (v := ?_) rfl (by kernel_rfl) (by kernel_rfl) (by kernel_rfl) (fun _ _ _ h => h) (Or.inl ⟨by rfl, ?_⟩) (by assumption) ?_
                rotate_left
                · (intro w hSw; (try dsimp only at hSw); go_simp; try with_reducible rfl)
                try simp only [List.getElem_toArray, List.getElem_cons_succ, List.getElem_cons_zero, Act.put, List.setIfInBounds_toArray, List.set_cons_zero, List.set_cons_succ]
                refine wpAnyH_take (i := 2) (v := undef) rfl (by kernel_rfl) (by kernel_rfl) (by kernel_rfl) (fun _ _ _ h => h) (Or.inr ⟨by rfl, rfl⟩) (by assumption) ?_
                try simp only [List.getElem_toArray, List.getElem_cons_succ, List.getElem_cons_zero, Act.put, List.setIfInBounds_toArray, List.set_cons_zero, List.set_cons_succ]
                refine wpAnyH_take (i := 3) (v := undef) rfl (by kernel_rfl) (by kernel_rfl) (by kernel_rfl) (fun _ _ _ h => h) (Or.inr ⟨by rfl, rfl⟩) (by assumption) ?_
                try simp only [List.getElem_toArray, List.getElem_cons_succ, List.getElem_cons_zero, Act.put, List.setIfInBounds_toArray, List.set_cons_zero, List.set_cons_succ]
                refine wpAnyH_take (i := 4) (v := undef) rfl (by kernel_rfl) (by kernel_rfl) (by kernel_rfl) (fun _ _ _ h => h) (Or.inr ⟨by rfl, rfl⟩) (by assumption) ?_
                try simp only [List.getElem_toArray, List.getElem_cons_succ, List.getElem_cons_zero, Act.put, List.setIfInBounds_toArray, List.set_cons_zero, List.set_cons_succ]
                refine wpAnyH_take (i := 5) (v := undef) rfl (by kernel_rfl) (by kernel_rfl) (by kernel_rfl) (fun _ _ _ h => h) (Or.inr ⟨by rfl, rfl⟩) (by assumption) ?_
                try simp only [List.getElem_toArray, List.getElem_cons_succ, List.getElem_cons_zero, Act.put, List.setIfInBounds_toArray, List.set_cons_zero, List.set_cons_succ]
                refine wpAnyH_take (i := 6) (v := undef) rfl (by kernel_rfl) (by kernel_rfl) (by kernel_rfl) (fun _ _ _ h => h) (Or.inr ⟨by rfl, rfl⟩) (by assumption) ?_
                try simp only [List.getElem_toArray, List.getElem_cons_succ, List.getElem_cons_zero, Act.put, List.setIfInBounds_toArray, List.set_cons_zero, List.set_cons_succ]
                refine wpAnyH_take (i := 7) (v := undef) rfl (by kernel_rfl) (by kernel_rfl) (by kernel_rfl) (fun _ _ _ h => h) (Or.inr ⟨by rfl, rfl⟩) (by assumption) ?_
                try simp only [List.getElem_toArray, List.getElem_cons_succ, List.getElem_cons_zero, Act.put, List.setIfInBounds_toArray, List.set_cons_zero, List.set_cons_succ]
                refine wpAnyH_take (i := 8) (v := undef) rfl (by kernel_rfl) (by kernel_rfl) (by kernel_rfl) (fun _ _ _ h => h) (Or.inr ⟨by rfl, rfl⟩) (by assumption) ?_
                try simp only [List.getElem_toArray, List.getElem_cons_succ, List.getElem_cons_zero, Act.put, List.setIfInBounds_toArray, List.set_cons_zero, List.set_cons_succ]
                refine wpAnyH_take (i := 9) (v := undef) rfl (by kernel_rfl) (by kernel_rfl) (by kernel_rfl) (fun _ _ _ h => h) (Or.inr ⟨by rfl, rfl⟩) (by assumption) ?_
                try simp only [List.getElem_toArray, List.getElem_cons_succ, List.getElem_cons_zero, Act.put, List.setIfInBounds_toArray, List.set_cons_zero, List.set_cons_succ]
                refine wpAnyH_take (i := 10) (v := undef) rfl (by kernel_rfl) (by kernel_rfl) (by kernel_rfl) (fun _ _ _ h => h) (Or.inr ⟨by rfl, rfl⟩) (by assumption) ?_
                try simp only [List.getElem_toArray, List.getElem_cons_succ, List.getElem_cons_zero, Act.put, List.setIfInBounds_toArray, List.set_cons_zero, List.set_cons_succ]
                refine wpAnyH_take (i := 11) (v := undef) rfl (by kernel_rfl) (by kernel_rfl) (by kernel_rfl) (fun _ _ _ h => h) (Or.inr ⟨by rfl, rfl⟩) (by assumption) ?_
                try simp only [List.getElem_toArray, List.getElem_cons_succ, List.getElem_cons_zero, Act.put, List.setIfInBounds_toArray, List.set_cons_zero, List.set_cons_succ]
                refine wpAnyH_take (i := 12) (v := undef) rfl (by kernel_rfl) (by kernel_rfl) (by kernel_rfl) (fun _ _ _ h => h) (Or.inr ⟨by rfl, rfl⟩) (by assumption) ?_
                try simp only [List.getElem_toArray, List.getElem_cons_succ, List.getElem_cons_zero, Act.put, List.setIfInBounds_toArray, List.set_cons_zero, List.set_cons_succ]
                refine wpAnyH_take (i := 13) (v := ?_) rfl (by kernel_rfl) (by kernel_rfl) (by kernel_rfl) (fun _ _ _ h => h) (Or.inl ⟨by rfl, ?_⟩) (by assumption) ?_
                rotate_left
                · (intro w hSw; (try dsimp only at hSw); go_simp; try with_reducible rfl)
                try simp only [List.getElem_toArray, List.getElem_cons_succ, List.getElem_cons_zero, Act.put, List.setIfInBounds_toArray, List.set_cons_zero, List.set_cons_succ]
                refine wpAnyH_take (i := 14) (v := ?_) rfl (by kernel_rfl) (by kernel_rfl) (by kernel_rfl) (fun _ _ _ h => h) (Or.inl ⟨by rfl, ?_⟩) (by assumption) ?_
                rotate_left
                · (intro w hSw; (try dsimp only at hSw); go_simp; try with_reducible rfl)
                try simp only [List.getElem_toArray, List.getElem_cons_succ, List.getElem_cons_zero, Act.put, List.setIfInBounds_toArray, List.set_cons_zero, List.set_cons_succ]
                refine wpAnyH_done (by kernel_rfl) ?_ _
                go_wp2
                go_roundw
                case rel => exact ⟨j + 1, by omega, by go_num, by rw [HSn.out, ← Bool.or_assoc, HBe.out, Bool.true_or], grew_tr hgb (by repeat (first | with_reducible exact Below.refl _ _ | with_reducible assumption | with_reducible apply grew_ext | with_reducible apply grew_al | with_reducible apply grew_dn | with_reducible apply grew_d | (with_reducible refine grew_set ?_ (by first | omega | (repeat (first | with_reducible exact Nat.le_refl _ | with_reducible apply le_pl | with_reducible apply le_ext | with_reducible apply le_al))) _)))⟩
                case measure => (simp [intOf]; try omega)
            · obtain rfl : j = L.length := by omega
              rw [List.take_length, HE.out]
              go_wp2
              go_roundw
              case rel => exact ⟨k + 1, by omega, by go_num, grew_tr HG.out HGj.out⟩
              case measure => (simp [intOf]; try omega)
    · obtain rfl : k = L.length := by omega
      have HGw := Lib.hid (grew_tr G6.out hg)
      clear hg
      go_wp2
      go_ret
      exact ⟨rfl, HGw.out⟩
end Go.Proofs.Ytnjoofpllhbccaa

/- The walk of the law FnGrfPart. No condition. -/
namespace Go.Proofs.Ytnjoofpllhbccaa
open Go.RowKit
set_option linter.unusedVariables false
set_option linter.unusedSimpArgs false
attribute [local go_sem] ext_cell ext_frozen ext_lt ext_le ext_le1 lt_s2 lt_s3 lt_s4 lt_s5 lt_s6 ext_lt1 ext_lt2 ext_lt3

theorem grfPart_no {ps : List Prc} {x : Int} (h : thereB ps x = false) : grfPart ps x = [] := by rw [grfPart, h]; rfl
theorem grfPart_srt (ps : List Prc) (x : Int) : Srt (grfPart ps x) := by
  cases h : thereB ps x
  · rw [grfPart_no h]; simp [Srt]
  · obtain ⟨h1, h2⟩ := thereB_yes h
    rw [grfPart, h, if_pos rfl]
    exact part_srt (gok_of h1) (by rw [csOf_len]; exact h2)

set_option maxRecDepth 100000 in
set_option maxHeartbeats 4000000 in
theorem lawFnGrfPart (a : Option Addr) (n c : Nat) (xs : List Int) (w : World) (hr : Rd w a n 1 (ints .u8 xs)) (hx : Bs xs) (hc : n ≤ c ∧ c ≤ maxLen) :
    Calls Try.prog 10 #[.slice a n c] w fun e w' => e = .returned (.bool true) ∧ Grew w w' := by
  have HR := Lib.hid hr; clear hr
  have HX := Lib.hid hx; clear hx
  by_cases h1 : (n : Int) > 1048576
  · go_enter Try.func10, Try.ntmps10
    go_wp2
    go_ret
    exact ⟨rfl, Below.refl _ _⟩
  go_enter Try.func10, Try.ntmps10
  go_wp2_with fail
  refine (drawGrfPart a n c xs w HR.out HX.out hc).mono ?_
  rintro e w1 ⟨pa, m, pc, ps, x, rfl, hp, g1⟩
  have hm5 : m ≤ 5 := hp.2.1
  have hm63 : m ≤ 9223372036854775807 := by omega
  have HPL := Lib.hid hp.2.2
  have HML := Lib.hid hp.len
  have B1 := Lib.hid (Blk.new w1 49 #[.slice pa m pc])
  have P1 := Lib.hid (hp.grew (grew_al (Below.refl _ w1) (.cells #[.slice pa m pc] 49)))
  have G1 := Lib.hid (grew_tr g1 (grew_al (Below.refl _ _) (.cells #[.slice pa m pc] 49)))
  have CI := Lib.hid (fun W (h : RdP W pa m ps) => implGrfPart pa m pc ps x W h hm63)
  have CS := Lib.hid (fun W (h : RdP W pa m ps) => specGrfPart pa m pc ps x W h hm63)
  have CR := Lib.hid (fun W (h : RdP W pa m ps) (y : Int) => implGrfReach pa m pc ps y W h hm63)
  have CQ := Lib.hid (fun W (h : RdP W pa m ps) (y : Int) => implGrfPart pa m pc ps y W h hm63)
  have CP := Lib.hid (fun W (h : RdP W pa m ps) => specPrgOk pa m pc ps W h hm63)
  have hll := grfPart_len ps x
  have HSr := Lib.hid (grfPart_srt ps x)
  obtain ⟨L, hL⟩ : ∃ L, grfPart ps x = L := ⟨_, rfl⟩
  rw [hL] at CI CS hll HSr
  have HLL := Lib.hid hL
  clear hp g1 HR HX hL
  obtain ⟨b3, hb3⟩ : ∃ b, w1.heap.size = b := ⟨_, rfl⟩
  rw [hb3] at B1
  go_wp2_with fail
  refine (CI.out _ P1.out.1).mono ?_
  rintro e w2 ⟨la, lc, rfl, o2, g2⟩
  have R2 := Lib.hid (owns_rd o2)
  have B2 := Lib.hid (B1.out.grew g2)
  have P2 := Lib.hid (P1.out.grew g2)
  have G2 := Lib.hid (grew_tr G1.out g2)
  have hlc : L.length ≤ lc ∧ lc ≤ maxLen := owns_cap o2
  clear o2 g2 B1 P1 G1
  have p0 : w2.cell? ⟨b3, 0, none⟩ = some (.slice pa m pc) := B2.out.cell 0
  have pl := B2.out.lt
  try rw [hb3]
  clear hb3
  go_wp2_with fail
  refine (CS.out _ P2.out.1).mono ?_
  rintro e w3 ⟨sa, sc, rfl, o3, g3⟩
  have R3 := Lib.hid (R2.out.grew g3)
  have S3 := Lib.hid (owns_rd o3)
  have B3 := Lib.hid (B2.out.grew g3)
  have P3 := Lib.hid (P2.out.grew g3)
  have G3 := Lib.hid (grew_tr G2.out g3)
  clear o3 g3 B2 P2 G2 R2 p0 pl
  go_wp2_with fail
  refine (owIntsE la L.length lc sa L.length sc L w3 R3.out S3.out (by omega)).mono ?_
  rintro e w4 ⟨rfl, g4⟩
  have R4 := Lib.hid (R3.out.grew g4)
  have B4 := Lib.hid (B3.out.grew g4)
  have P4 := Lib.hid (P3.out.grew g4)
  have G4 := Lib.hid (grew_tr G3.out g4)
  clear g4 B3 P3 G3 R3 S3
  have p0 : w4.cell? ⟨b3, 0, none⟩ = some (.slice pa m pc) := B4.out.cell 0
  have pl := B4.out.lt
  have RP4 : Hid (RdP w4 pa m ps) := Lib.hid P4.out.1
  cases hB : prgOkB ps
  · have hLn : L = [] := by rw [← HLL.out]; exact grfPart_no (by simp [thereB, hB])
    subst hLn
    have CP2 := CP.out
    rw [hB] at CP2
    have HCP := Lib.hid CP2
    have HOK := Lib.hid owOkH
    clear CP2 CP
    go_wp2_with (first | ((with_reducible refine (HCP.out _ RP4.out).mono ?_); rintro e w' ⟨rfl, g'⟩; (first | obtain ⟨y, rfl⟩ := ext_cold g' | obtain ⟨y, rfl⟩ := ext_col g' | obtain ⟨y, rfl⟩ := ext_of g'); clear g') | ((with_reducible refine (HOK.out _).mono ?_); rintro e w' ⟨rfl, rfl⟩))
    go_ret
    have hg := G4.out
    refine ⟨rfl, ?_⟩
    repeat (first | with_reducible exact Below.refl _ _ | with_reducible assumption | with_reducible apply grew_ext | with_reducible apply grew_al | with_reducible apply grew_dn | with_reducible apply grew_d | (with_reducible refine grew_set ?_ (by first | omega | (repeat (first | with_reducible exact Nat.le_refl _ | with_reducible apply le_pl | with_reducible apply le_ext | with_reducible apply le_al))) _))
  have CP2 := CP.out
  rw [hB] at CP2
  have HCP := Lib.hid CP2
  have HOK := Lib.hid owOkH
  clear CP2 CP
  by_cases h2 : x < 0
  · have hLn : L = [] := by rw [← HLL.out]; exact grfPart_no (by simp [thereB]; omega)
    subst hLn
    go_wp2_with (first | ((with_reducible refine (HCP.out _ RP4.out).mono ?_); rintro e w' ⟨rfl, g'⟩; (first | obtain ⟨y, rfl⟩ := ext_cold g' | obtain ⟨y, rfl⟩ := ext_col g' | obtain ⟨y, rfl⟩ := ext_of g'); clear g') | ((with_reducible refine (HOK.out _).mono ?_); rintro e w' ⟨rfl, rfl⟩))
    go_ret
    have hg := G4.out
    refine ⟨rfl, ?_⟩
    repeat (first | with_reducible exact Below.refl _ _ | with_reducible assumption | with_reducible apply grew_ext | with_reducible apply grew_al | with_reducible apply grew_dn | with_reducible apply grew_d | (with_reducible refine grew_set ?_ (by first | omega | (repeat (first | with_reducible exact Nat.le_refl _ | with_reducible apply le_pl | with_reducible apply le_ext | with_reducible apply le_al))) _))
  by_cases h3 : x ≥ m
  · have hLn : L = [] := by rw [← HLL.out]; exact grfPart_no (by have := HML.out; simp [thereB]; omega)
    subst hLn
    go_wp2_with (first | ((with_reducible refine (HCP.out _ RP4.out).mono ?_); rintro e w' ⟨rfl, g'⟩; (first | obtain ⟨y, rfl⟩ := ext_cold g' | obtain ⟨y, rfl⟩ := ext_col g' | obtain ⟨y, rfl⟩ := ext_of g'); clear g') | ((with_reducible refine (HOK.out _).mono ?_); rintro e w' ⟨rfl, rfl⟩))
    go_ret
    have hg := G4.out
    refine ⟨rfl, ?_⟩
    repeat (first | with_reducible exact Below.refl _ _ | with_reducible assumption | with_reducible apply grew_ext | with_reducible apply grew_al | with_reducible apply grew_dn | with_reducible apply grew_d | (with_reducible refine grew_set ?_ (by first | omega | (repeat (first | with_reducible exact Nat.le_refl _ | with_reducible apply le_pl | with_reducible apply le_ext | with_reducible apply le_al))) _))
  obtain ⟨q, rfl⟩ := Int.eq_ofNat_of_zero_le (show 0 ≤ x by omega)
  have hqm : q < m := by omega
  have hq0 : ¬ (q : Int) < 0 := by omega
  have hqd : decide ((q : Int) < 0) = false := decide_eq_false hq0
  have hq1 : ¬ m ≤ q := by omega
  have hq2 : ¬ (m : Int) ≤ (q : Int) := by omega
  have hqe : decide (m ≤ q) = false := decide_eq_false hq1
  have hqf : decide ((m : Int) ≤ (q : Int)) = false := decide_eq_false hq2
  clear h2 h3
  go_wp2_with fail
  refine (HCP.out _ P4.out.1).mono ?_
  rintro e w5 ⟨rfl, g5⟩
  have R5 := Lib.hid (R4.out.grew g5)
  have B5 := Lib.hid (B4.out.grew g5)
  have P5 := Lib.hid (P4.out.grew g5)
  have G5 := Lib.hid (grew_tr G4.out g5)
  clear g5 B4 P4 G4 R4 p0 pl
  have p0 : w5.cell? ⟨b3, 0, none⟩ = some (.slice pa m pc) := B5.out.cell 0
  have pl := B5.out.lt
  have HP := Lib.hid hB
  have HX0 : Hid (0 ≤ (q : Int) ∧ (q : Int) < (csOf ps).length) := Lib.hid (by rw [csOf_len]; have := HML.out; omega)
  have HLe : Hid (L = partL (cOf' (csOf ps)) (csOf ps).length q) := Lib.hid (by
    rw [← HLL.out, grfPart, if_pos]
    have := HML.out
    simp [thereB, hB]
    omega)
  have HMem := Lib.hid (show ∀ k : Nat, k < m → ((k : Int) ∈ L ↔ (k : Int) ∈ grfReach ps q ∧ (q : Int) ∈ grfReach ps k) from fun k hk => by
    have hq := grfReach_yes (ps := ps) (x := q) (by have := HML.out; simp [thereB, hB]; omega)
    have hk2 := grfReach_yes (ps := ps) (x := k) (by have := HML.out; simp [thereB, hB]; omega)
    rw [HLe.out, part_mem (gok_of HP.out) HX0.out, hq.2, hk2.2])
  have HEq := Lib.hid (show ∀ k : Nat, k < m → (k : Int) ∈ L → grfPart ps k = L from fun k hk h => by
    rw [grfPart, if_pos (by have := HML.out; simp [thereB, hB]; omega)]
    rw [HLe.out] at h ⊢
    exact part_eq (gok_of HP.out) HX0.out h)
  have hself : (q : Int) ∈ L := by rw [HLe.out]; exact part_self (gok_of HP.out) HX0.out
  have HSelf := Lib.hid hself
  have HHas := Lib.hid (fun (y : Int) (W : World) (h : Grew w5 W) => owHas la L.length lc L y W (R5.out.grew h) (by unfold maxLen at hlc; omega))
  have HSO := Lib.hid (fun W (h : Grew w5 W) => (h.cell (p := ⟨b3, 0, none⟩) pl).trans p0)
  have HPW := Lib.hid (fun W (h : Grew w5 W) => (P5.out.1.grew h : RdP W pa m ps))
  clear CI CS HCP HOK HLL HLe hself P5 B5
  go_wp2
  clear p0 pl
  go_loopw [6, 7] (fun i v wr => ∃ k : Nat, k ≤ m ∧ i = .int .i64 k ∧ Grew w5 wr) (fun i _ _ => m - (intOf i).toNat)
  case atStart => exact ⟨0, Nat.zero_le _, rfl, Below.refl _ _⟩
  case round =>
    obtain ⟨k, hk, rfl, hg⟩ := hrel
    have HG := Lib.hid hg
    have p0 := HSO.out _ hg
    have pl : b3 < wr.heap.size := World.block_lt_of_cell? _ _ p0
    clear hg
    by_cases hlt : k < m
    · go_wp2_with fail
      refine (CR.out _ (HPW.out _ HG.out) (q : Int)).mono ?_
      rintro e w6 ⟨ra, rc, rfl, o6, g6⟩
      have hb6 := grfReach_len ps (q : Int)
      have h6 := Lib.hid (owHas ra (grfReach ps q).length rc (grfReach ps q) k w6 (owns_rd o6) (by omega))
      have HG6 := Lib.hid (grew_tr HG.out g6)
      clear o6 g6 p0 pl
      have p0 := HSO.out _ HG6.out
      have pl : b3 < w6.heap.size := World.block_lt_of_cell? _ _ p0
      go_wp2_with fail
      refine h6.out.mono ?_
      rintro e w7 ⟨rfl, rfl⟩
      by_cases h1 : (k : Int) ∈ grfReach ps q
      · rw [decide_eq_true h1]
        have H1 := Lib.hid h1
        clear h1 h6
        go_wp2_with fail
        refine (CR.out _ (HPW.out _ HG6.out) (k : Int)).mono ?_
        rintro e w8 ⟨ta, tc, rfl, o8, g8⟩
        have hb8 := grfReach_len ps (k : Int)
        have h8 := Lib.hid (owHas ta (grfReach ps k).length tc (grfReach ps k) q w8 (owns_rd o8) (by omega))
        have HG8 := Lib.hid (grew_tr HG6.out g8)
        clear o8 g8 p0 pl
        have p0 := HSO.out _ HG8.out
        have pl : b3 < w8.heap.size := World.block_lt_of_cell? _ _ p0
        go_wp2_with fail
        refine h8.out.mono ?_
        rintro e w9 ⟨rfl, rfl⟩
        have hh := HHas.out k _ HG8.out
        by_cases h2 : (q : Int) ∈ grfReach ps k
        · have hkL := (HMem.out k hlt).2 ⟨H1.out, h2⟩
          have hpe := HEq.out k hlt hkL
          rw [decide_eq_true hkL] at hh
          rw [decide_eq_true h2]
          have HH := Lib.hid hh
          have hcq := CQ.out _ (HPW.out _ HG8.out) (k : Int)
          rw [hpe] at hcq
          have HCq := Lib.hid hcq
          clear hh h2 hkL hpe hcq h8
          go_wp2_with fail
          refine HH.out.mono ?_
          rintro e w9 ⟨rfl, rfl⟩
          go_wp2_with fail
          refine HCq.out.mono ?_
          rintro e w10 ⟨va, vc, rfl, o10, g10⟩
          have HI := Lib.hid (owIntsE va L.length vc la L.length lc L w10 (owns_rd o10) (R5.out.grew (grew_tr HG8.out g10)) (by omega))
          have HG10 := Lib.hid (grew_tr HG8.out g10)
          clear o10 g10 p0 pl
          go_wp2_with fail
          refine HI.out.mono ?_
          rintro e w11 ⟨rfl, g11⟩
          have HG11 := Lib.hid (grew_tr HG10.out g11)
          clear g11
          go_wp2
          go_roundw
          case rel => exact ⟨k + 1, by omega, by go_num, HG11.out⟩
          case measure => (simp [intOf]; try omega)
        · have hkL : ¬ (k : Int) ∈ L := fun h => h2 ((HMem.out k hlt).1 h).2
          rw [decide_eq_false hkL] at hh
          rw [decide_eq_false h2]
          have HH := Lib.hid hh
          clear hh h2 hkL h8
          go_wp2_with fail
          refine HH.out.mono ?_
          rintro e w9 ⟨rfl, rfl⟩
          go_wp2
          go_roundw
          case rel => exact ⟨k + 1, by omega, by go_num, HG8.out⟩
          case measure => (simp [intOf]; try omega)
      · have hh := HHas.out k _ HG6.out
        have hkL : ¬ (k : Int) ∈ L := fun h => h1 ((HMem.out k hlt).1 h).1
        rw [decide_eq_false hkL] at hh
        rw [decide_eq_false h1]
        have HH := Lib.hid hh
        clear hh h1 hkL h6
        go_wp2_with fail
        refine HH.out.mono ?_
        rintro e w9 ⟨rfl, rfl⟩
        go_wp2
        go_roundw
        case rel => exact ⟨k + 1, by omega, by go_num, HG6.out⟩
        case measure => (simp [intOf]; try omega)
    · obtain rfl : k = m := by omega
      have hh := HHas.out q _ HG.out
      rw [decide_eq_true HSelf.out] at hh
      have HH := Lib.hid hh
      have HRI := Lib.hid (owRising la L.length lc L wr (R5.out.grew HG.out) (by omega) HSr.out)
      clear hh
      go_wp2_with fail
      refine HH.out.mono ?_
      rintro e w9 ⟨rfl, rfl⟩
      go_wp2_with fail
      refine HRI.out.mono ?_
      rintro e w9 ⟨rfl, g9⟩
      go_wp2
      go_ret
      exact ⟨rfl, grew_tr G5.out (grew_tr HG.out g9)⟩
end Go.Proofs.Ytnjoofpllhbccaa
