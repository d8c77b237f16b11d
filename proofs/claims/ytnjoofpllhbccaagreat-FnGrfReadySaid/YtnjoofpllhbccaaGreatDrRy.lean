/- The draw DrawGrfReady. No condition. -/
import Derived.Test.YtnjoofpllhbccaaGreatDrGd
import Derived.Test.YtnjoofpllhbccaaGreatRq
namespace Go.Proofs.YtnjoofpllhbccaaGreat
open Go.RowKit
set_option linter.unusedVariables false
set_option linter.unusedSimpArgs false
attribute [local go_sem] dg_cell dg_frozen dg_lt dg_lt1 dg_lt2 dg_ne dg_ne1 dg_ne2 dg_new dg_wen lt_s2 lt_s3 lt_s4 lt_s5 lt_s6

/-- A program and marks were drawn. -/
def RetPB (w : World) (e : Ending) (w' : World) : Prop := ∃ a' m c' ps da dn dc done, e = .returned (.tuple #[.agg #[.slice a' m c'], .slice da dn dc]) ∧ PrgIn w' a' m ps ∧ Rd w' da dn 1 (bools done) ∧ dn ≤ 5 ∧ Grew w w'
theorem ownP_chgG {g B m : Nat} {w W : World} {v : Value} {ms : List (Prc × Value)} (h : OwnP w B v m ms) (c : ChgG g w W) (hg : g < B) : OwnP W B v m ms :=
  ⟨h.1, owns_chg h.2.1 c (fun b hb e => by have := (h.2.1.lt b hb).1; omega), fun q hq => owns_chg (h.2.2 q hq) c (fun b hb e => by have := ((h.2.2 q hq).lt b hb).1; omega)⟩
set_option maxRecDepth 100000 in
set_option maxHeartbeats 4000000 in
theorem drawGrfReady (a : Option Addr) (n cap : Nat) (zs : List Int) (w : World) (hr : Rd w a n 1 (ints .u8 zs)) (hz : Bs zs) (hc : n ≤ cap ∧ cap ≤ maxLen) :
    Calls Tryz.prog 16 #[.slice a n cap] w (RetPB w) := by
  have HR0 := Lib.hid (hr.grew (grew_al (Below.refl _ w) (.cells Zq 25))); clear hr
  have HZ := Lib.hid hz; clear hz
  go_enter Tryz.func16, Tryz.ntmps16
  go_wp2_with fail
  refine (l20Open _ _ _ _ _ HR0.out HZ.out hc).mono ?_
  rintro e w1 ⟨rfl, h1, h2⟩
  have hZ1 := Lib.hid (show Blk w1 w.heap.size 25 Zq from (Blk.new w _ _).grew h2)
  have G1 := Lib.hid (show Grew w w1 from grew_tr (grew_al (Below.refl _ w) _) h2)
  obtain ⟨g, hg⟩ : ∃ g, w.heap.size + 1 = g := ⟨_, rfl⟩
  simp only [World.size_alloc, hg] at h1 ⊢
  have hgw : w.heap.size < g := by omega
  have ngz : ¬ w.heap.size = g := by omega
  have lg := h1.lt
  have H1 := Lib.hid h1
  clear h1 h2 hg HR0 HZ
  go_wp2_with fail
  refine Calls.mono (progOrG (q := 16) H1.out (by omega) (by omega)) ?_
  rintro e w2 ⟨v, m, ms, rfl, ho, hm5, hml, hr2, hc2⟩
  obtain ⟨pa, pc, rfl⟩ := owns_slice ho.2.1
  obtain ⟨b5, hb5⟩ : ∃ b, w2.heap.size = b := ⟨_, rfl⟩
  have h5 : w1.heap.size ≤ b5 := by have := hc2.size; omega
  have n5 : ¬ b5 = g := by omega
  have nzb : ¬ w.heap.size = b5 := by omega
  go_wp2_with fail
  try simp only [hb5]
  refine calls_let ?_
  intro E hE
  have CE : ChgG g w1 E := by rw [hE]; exact chg_al hc2 _
  have BE : Blk E b5 25 #[.slice pa m pc] := by rw [hE]; subst hb5; exact Blk.new _ _ _
  have OE : OwnP E w1.heap.size (.slice pa m pc) m ms := by rw [hE]; exact ho.grew (grew_al (Below.refl _ _) _)
  have RE : RdLe E g (0 + 1720) := by rw [hE]; exact rd_al hr2 _
  clear hE ho hr2 hc2 hb5
  refine Calls.mono (pickG (k := 2) RE (by omega) (by omega)) ?_
  rintro e w3 ⟨v, rfl, ⟨s, rfl, hs⟩, hr3, hc3⟩
  have C3 := Lib.hid (CE.trans hc3)
  have B3 := Lib.hid (BE.chg hc3 n5)
  have O3 : Hid (OwnP w3 w1.heap.size (.slice pa m pc) m ms) := Lib.hid ⟨OE.1, owns_chg OE.2.1 hc3 (fun b hb e => by have := (OE.2.1.lt b hb).1; omega), fun q hq => owns_chg (OE.2.2 q hq) hc3 (fun b hb e => by have := ((OE.2.2 q hq).lt b hb).1; omega)⟩
  have R3 := Lib.hid hr3
  have HML0 := Lib.hid hml
  clear CE BE OE RE hr3 hc3 hml
  obtain ⟨B, hB⟩ : ∃ B, w1.heap.size = B := ⟨_, rfl⟩
  have hgB : g < B := by omega
  have hwB : w.heap.size < B := by omega
  have hB5 : B ≤ b5 := by omega
  by_cases hs0 : s = 0
  · subst hs0
    go_wp2_with fail
    refine Calls.mono (smallG R3.out (by omega)) ?_
    rintro e w4 ⟨v, m4, ms4, rfl, ho4, hm4, hml4, hr4, hc4⟩
    obtain ⟨pa4, pc4, rfl⟩ := owns_slice ho4.2.1
    have B4 := Lib.hid (B3.out.chg hc4 n5)
    have p0 : w4.cell? ⟨b5, 0, none⟩ = some (.slice pa m pc) := B4.out.cell 0
    have pf := fun j => B4.out.frozen j
    have pl := B4.out.lt
    go_upto_region 5 with fail
    refine wp_let_c ?_
    intro E hE
    have hb5r := blk_ne B4.out ho4.2.1 (by decide)
    have HB7 := Lib.hid (show Blk E b5 25 #[.slice pa4 m4 pc4] from by rw [hE]; exact B4.out.set_ 0 _)
    have HC7 := Lib.hid (show ChgG g w1 E from by rw [hE]; exact chg_set (C3.out.trans hc4) (by simp only; omega) _)
    have HO7 := Lib.hid (show OwnP E B (.slice pa4 m4 pc4) m4 ms4 from by
      rw [hE]
      exact (ho4.far B4.out (by decide) (by decide) _ _).mono (by have := C3.out.size; omega))
    have HR7 := Lib.hid (show RdLe E g (0 + 1720 + 1 + 1720) from by rw [hE]; exact rd_set hr4 (by simp only; omega) _)
    have HZ7 := Lib.hid (hZ1.out.chg HC7.out ngz)
    have HML := Lib.hid hml4
    clear hE hb5r B4 p0 pf pl ho4 hr4 hc4 hml4 C3 B3 O3 R3 HML0 hm5
    have hm5 := hm4
    clear hm4
    have d0 : E.cell? ⟨b5, 0, none⟩ = some (.slice pa4 m4 pc4) := HB7.out.cell 0
    have dl := HB7.out.lt
    have hm63 : m4 ≤ 9223372036854775807 := by omega
    have HGP := Lib.hid (fun W (h : Grew E W) => specGrfParts pa4 m4 pc4 (ms4.map (·.1)) W (HO7.out.rd.grew h) hm63)
    have HBd := Lib.hid (grfParts_bd (ms4.map (·.1)))
    obtain ⟨K, hK⟩ : ∃ K, grfParts (ms4.map (·.1)) = K := ⟨_, rfl⟩
    rw [hK] at HGP HBd
    have hK4 := HBd.out.1
    have hEg : g < E.heap.size := HR7.out.lt
    have hEw : w.heap.size < E.heap.size := HZ7.out.lt
    have H0 := Lib.hid (show (E.alloc (.cells #[] 4)).ownsRow E.heap.size 4 1 (.slice (some ⟨E.heap.size, 0, none⟩) 0 0) 0 (bools []) from World.ownsRow_lit E #[] 0 (Nat.le_refl _) (Nat.zero_le _) rfl)
    clear hK
    go_wp2_with fail
    refine (HGP.out _ (grew_al (Below.refl _ _) _)).mono ?_
    rintro e w6 ⟨ka, kc, kms, rfl, o6, hms, g6⟩
    have HD6 := Lib.hid (owns_grew H0.out g6)
    have G6 := Lib.hid (show Grew E w6 from grew_tr (grew_al (Below.refl _ _) _) g6)
    have HR6 := Lib.hid (HR7.out.grew G6.out)
    clear o6 hms g6 d0 dl H0
    go_wp2
    go_loopw [6, 7] (fun v i wr => ∃ (k : Nat) (ds : List Bool) (da : Option Addr) (dc : Nat), i = .int .i64 k ∧ v = .slice da ds.length dc ∧ ds.length + k = K.length ∧ wr.ownsRow E.heap.size 4 1 (.slice da ds.length dc) ds.length (bools ds) ∧ ChgG g E wr ∧ RdLe wr g ((0 + 1720 + 1 + 1720) + ds.length)) (fun _ i _ => (intOf i).toNat)
    case atStart => exact ⟨K.length, [], _, 0, rfl, rfl, by simp, HD6.out, ChgG.of_grew G6.out, HR6.out.mono (by omega)⟩
    case round =>
      clear HD6 HR6
      obtain ⟨k, ds, da, dc, rfl, rfl, hdk, ho, hch, hrd⟩ := hrel
      have hsz := hch.size
      have HO := Lib.hid ho
      have HCh := Lib.hid hch
      have HRd := Lib.hid hrd
      obtain ⟨wo, hwo⟩ : ∃ wo : World, wo = wr := ⟨_, rfl⟩
      subst hwo
      clear ho hch hrd
      by_cases hk0 : k = 0
      · subst hk0
        have hdK : ds.length ≤ 4 := by omega
        clear hdk
        go_wp2_with fail
        refine Calls.mono (oddG (k := 12) HRd.out (by omega) (by omega)) ?_
        rintro e w7 ⟨v, rfl, ⟨o, rfl⟩, hr7, hc7⟩
        have HO7' := Lib.hid (owns_chg HO.out hc7 (fun b hb e => by have := (HO.out.lt b hb).1; omega))
        have HC8 := Lib.hid (HCh.out.trans hc7)
        have hsz7 := HC8.out.size
        have HB8 := Lib.hid (HB7.out.chg HC8.out n5)
        have d0 : w7.cell? ⟨b5, 0, none⟩ = some (.slice pa4 m4 pc4) := HB8.out.cell 0
        clear hr7 hc7 HO
        cases o
        · have HZ8 := Lib.hid (HZ7.out.chg HC8.out ngz)
          have z0 : w7.cell? ⟨w.heap.size, 0, none⟩ = some (.slice none 0 0) := HZ8.out.cell 0
          have zf := fun j => HZ8.out.frozen j
          have zl := HZ8.out.lt
          go_wp2
          refine bodyPost_ret (by simp [results, Tryz.results16, go_sem, z0, zl]; try rfl) rfl ?_
          have hO8 := ownP_chgG HO7.out HC8.out (by omega)
          refine ⟨pa4, m4, pc4, _, da, _, dc, ds, rfl, PrgIn.of (hO8.far HZ8.out (by decide) (by decide) _ _) hm5 HML.out, owns_rd (owns_chg HO7'.out (chg_cell w7 w.heap.size 0 _) (fun b hb e => by have := (HO7'.out.lt b hb).1; omega)), by omega, ?_⟩
          exact grew_set (G1.out.trans ((HC7.out.trans HC8.out).belowB G1.out.size (fun k hk => by omega))) (Nat.le_refl _) _
        · obtain ⟨a2, c3, w8, r3, o3, k3⟩ := appOneD true HO7'.out (by omega) hsz7
          have R3 := Lib.hid r3
          have HO8 := Lib.hid o3
          have HC9 := Lib.hid (show ChgG g E w8 from Chg.trans HC8.out k3 (fun _ _ h => h) (fun i hi e => by have := (HO7'.out.lt i e).1; omega))
          have HB9 := Lib.hid (HB7.out.chg HC9.out n5)
          have HZ9 := Lib.hid (HZ7.out.chg HC9.out ngz)
          have q0 : w8.cell? ⟨b5, 0, none⟩ = some (.slice pa4 m4 pc4) := HB9.out.cell 0
          have z0 : w8.cell? ⟨w.heap.size, 0, none⟩ = some (.slice none 0 0) := HZ9.out.cell 0
          have zf := fun j => HZ9.out.frozen j
          have zl := HZ9.out.lt
          clear r3 o3 k3
          go_wp2_with (at_builtin; refine wpList_append_run rfl _ _ rfl rfl rfl rfl R3.out ?_; clear R3)
          refine bodyPost_ret (by simp [results, Tryz.results16, go_sem, z0, zl]; try rfl) rfl ?_
          have hO8 := ownP_chgG HO7.out HC9.out (by omega)
          refine ⟨pa4, m4, pc4, _, a2, _, c3, ds ++ [true], rfl, PrgIn.of (hO8.far HZ9.out (by decide) (by decide) _ _) hm5 HML.out, owns_rd (owns_chg HO8.out (chg_cell w8 w.heap.size 0 _) (fun b hb e => by have := (HO8.out.lt b hb).1; omega)), by omega, ?_⟩
          exact grew_set (G1.out.trans ((HC7.out.trans HC9.out).belowB G1.out.size (fun k hk => by omega))) (Nat.le_refl _) _
      · have hkp : 0 < k := by omega
        have hkd : (0 : Int) < (k : Int) := by omega
        go_wp2_with fail
        refine Calls.mono (pickG (k := 2) HRd.out (by omega) (by omega)) ?_
        rintro e w7 ⟨v, rfl, ⟨q, rfl, _⟩, hr7, hc7⟩
        have HO7' := Lib.hid (owns_chg HO.out hc7 (fun b hb e => by have := (HO.out.lt b hb).1; omega))
        have HC8 := Lib.hid (HCh.out.trans hc7)
        have hsz7 := HC8.out.size
        obtain ⟨z, hz⟩ : ∃ z : Bool, ((q : Int) == 0) = z := ⟨_, rfl⟩
        obtain ⟨a2, c3, w8, r3, o3, k3⟩ := appOneD z HO7'.out (by omega) hsz7
        have R3 := Lib.hid r3
        have HO8 := Lib.hid o3
        have HC9 := Lib.hid (show ChgG g E w8 from Chg.trans HC8.out k3 (fun _ _ h => h) (fun i hi e => by have := (HO7'.out.lt i e).1; omega))
        have HR9 := Lib.hid (hr7.chg k3 (fun b hb e => by have := (HO7'.out.lt b e).1; omega))
        clear r3 o3 k3 hr7 hc7 HO
        go_wp2_with (at_builtin; (try simp only [hz]); refine wpList_append_run rfl _ _ rfl rfl rfl rfl R3.out ?_; clear R3)
        go_roundw
        case rel => exact ⟨k - 1, ds ++ [z], a2, c3, by go_num, by simp, by simp; omega, by simpa using HO8.out, HC9.out, HR9.out.mono (by simp; omega)⟩
        case measure => (simp [intOf]; try omega)
  · have q0 : ((s : Int) == 0) = false := by simp; omega
    go_upto_region 5 with fail
    refine wp_let_c ?_
    intro E hE
    subst hE
    have HB7 := B3
    have HC7 := C3
    have HO7 : Hid (OwnP E B (.slice pa m pc) m ms) := Lib.hid (by rw [← hB]; exact O3.out)
    have HR7 := R3
    have HZ7 := Lib.hid (hZ1.out.chg HC7.out ngz)
    have HML := HML0
    clear B3 C3 O3 R3 HML0
    have d0 : E.cell? ⟨b5, 0, none⟩ = some (.slice pa m pc) := HB7.out.cell 0
    have dl := HB7.out.lt
    have hm63 : m ≤ 9223372036854775807 := by omega
    have HGP := Lib.hid (fun W (h : Grew E W) => specGrfParts pa m pc (ms.map (·.1)) W (HO7.out.rd.grew h) hm63)
    have HBd := Lib.hid (grfParts_bd (ms.map (·.1)))
    obtain ⟨K, hK⟩ : ∃ K, grfParts (ms.map (·.1)) = K := ⟨_, rfl⟩
    rw [hK] at HGP HBd
    have hK4 := HBd.out.1
    have hEg : g < E.heap.size := HR7.out.lt
    have hEw : w.heap.size < E.heap.size := HZ7.out.lt
    have H0 := Lib.hid (show (E.alloc (.cells #[] 4)).ownsRow E.heap.size 4 1 (.slice (some ⟨E.heap.size, 0, none⟩) 0 0) 0 (bools []) from World.ownsRow_lit E #[] 0 (Nat.le_refl _) (Nat.zero_le _) rfl)
    clear hK
    go_wp2_with fail
    refine (HGP.out _ (grew_al (Below.refl _ _) _)).mono ?_
    rintro e w6 ⟨ka, kc, kms, rfl, o6, hms, g6⟩
    have HD6 := Lib.hid (owns_grew H0.out g6)
    have G6 := Lib.hid (show Grew E w6 from grew_tr (grew_al (Below.refl _ _) _) g6)
    have HR6 := Lib.hid (HR7.out.grew G6.out)
    clear o6 hms g6 d0 dl H0
    go_wp2
    go_loopw [6, 7] (fun v i wr => ∃ (k : Nat) (ds : List Bool) (da : Option Addr) (dc : Nat), i = .int .i64 k ∧ v = .slice da ds.length dc ∧ ds.length + k = K.length ∧ wr.ownsRow E.heap.size 4 1 (.slice da ds.length dc) ds.length (bools ds) ∧ ChgG g E wr ∧ RdLe wr g ((0 + 1720 + 1) + ds.length)) (fun _ i _ => (intOf i).toNat)
    case atStart => exact ⟨K.length, [], _, 0, rfl, rfl, by simp, HD6.out, ChgG.of_grew G6.out, HR6.out.mono (by omega)⟩
    case round =>
      clear HD6 HR6
      obtain ⟨k, ds, da, dc, rfl, rfl, hdk, ho, hch, hrd⟩ := hrel
      have hsz := hch.size
      have HO := Lib.hid ho
      have HCh := Lib.hid hch
      have HRd := Lib.hid hrd
      obtain ⟨wo, hwo⟩ : ∃ wo : World, wo = wr := ⟨_, rfl⟩
      subst hwo
      clear ho hch hrd
      by_cases hk0 : k = 0
      · subst hk0
        have hdK : ds.length ≤ 4 := by omega
        clear hdk
        go_wp2_with fail
        refine Calls.mono (oddG (k := 12) HRd.out (by omega) (by omega)) ?_
        rintro e w7 ⟨v, rfl, ⟨o, rfl⟩, hr7, hc7⟩
        have HO7' := Lib.hid (owns_chg HO.out hc7 (fun b hb e => by have := (HO.out.lt b hb).1; omega))
        have HC8 := Lib.hid (HCh.out.trans hc7)
        have hsz7 := HC8.out.size
        have HB8 := Lib.hid (HB7.out.chg HC8.out n5)
        have d0 : w7.cell? ⟨b5, 0, none⟩ = some (.slice pa m pc) := HB8.out.cell 0
        clear hr7 hc7 HO
        cases o
        · have HZ8 := Lib.hid (HZ7.out.chg HC8.out ngz)
          have z0 : w7.cell? ⟨w.heap.size, 0, none⟩ = some (.slice none 0 0) := HZ8.out.cell 0
          have zf := fun j => HZ8.out.frozen j
          have zl := HZ8.out.lt
          go_wp2
          refine bodyPost_ret (by simp [results, Tryz.results16, go_sem, z0, zl]; try rfl) rfl ?_
          have hO8 := ownP_chgG HO7.out HC8.out (by omega)
          refine ⟨pa, m, pc, _, da, _, dc, ds, rfl, PrgIn.of (hO8.far HZ8.out (by decide) (by decide) _ _) hm5 HML.out, owns_rd (owns_chg HO7'.out (chg_cell w7 w.heap.size 0 _) (fun b hb e => by have := (HO7'.out.lt b hb).1; omega)), by omega, ?_⟩
          exact grew_set (G1.out.trans ((HC7.out.trans HC8.out).belowB G1.out.size (fun k hk => by omega))) (Nat.le_refl _) _
        · obtain ⟨a2, c3, w8, r3, o3, k3⟩ := appOneD true HO7'.out (by omega) hsz7
          have R3 := Lib.hid r3
          have HO8 := Lib.hid o3
          have HC9 := Lib.hid (show ChgG g E w8 from Chg.trans HC8.out k3 (fun _ _ h => h) (fun i hi e => by have := (HO7'.out.lt i e).1; omega))
          have HB9 := Lib.hid (HB7.out.chg HC9.out n5)
          have HZ9 := Lib.hid (HZ7.out.chg HC9.out ngz)
          have q0 : w8.cell? ⟨b5, 0, none⟩ = some (.slice pa m pc) := HB9.out.cell 0
          have z0 : w8.cell? ⟨w.heap.size, 0, none⟩ = some (.slice none 0 0) := HZ9.out.cell 0
          have zf := fun j => HZ9.out.frozen j
          have zl := HZ9.out.lt
          clear r3 o3 k3
          go_wp2_with (at_builtin; refine wpList_append_run rfl _ _ rfl rfl rfl rfl R3.out ?_; clear R3)
          refine bodyPost_ret (by simp [results, Tryz.results16, go_sem, z0, zl]; try rfl) rfl ?_
          have hO8 := ownP_chgG HO7.out HC9.out (by omega)
          refine ⟨pa, m, pc, _, a2, _, c3, ds ++ [true], rfl, PrgIn.of (hO8.far HZ9.out (by decide) (by decide) _ _) hm5 HML.out, owns_rd (owns_chg HO8.out (chg_cell w8 w.heap.size 0 _) (fun b hb e => by have := (HO8.out.lt b hb).1; omega)), by omega, ?_⟩
          exact grew_set (G1.out.trans ((HC7.out.trans HC9.out).belowB G1.out.size (fun k hk => by omega))) (Nat.le_refl _) _
      · have hkp : 0 < k := by omega
        have hkd : (0 : Int) < (k : Int) := by omega
        go_wp2_with fail
        refine Calls.mono (pickG (k := 2) HRd.out (by omega) (by omega)) ?_
        rintro e w7 ⟨v, rfl, ⟨q, rfl, _⟩, hr7, hc7⟩
        have HO7' := Lib.hid (owns_chg HO.out hc7 (fun b hb e => by have := (HO.out.lt b hb).1; omega))
        have HC8 := Lib.hid (HCh.out.trans hc7)
        have hsz7 := HC8.out.size
        obtain ⟨z, hz⟩ : ∃ z : Bool, ((q : Int) == 0) = z := ⟨_, rfl⟩
        obtain ⟨a2, c3, w8, r3, o3, k3⟩ := appOneD z HO7'.out (by omega) hsz7
        have R3 := Lib.hid r3
        have HO8 := Lib.hid o3
        have HC9 := Lib.hid (show ChgG g E w8 from Chg.trans HC8.out k3 (fun _ _ h => h) (fun i hi e => by have := (HO7'.out.lt i e).1; omega))
        have HR9 := Lib.hid (hr7.chg k3 (fun b hb e => by have := (HO7'.out.lt b e).1; omega))
        clear r3 o3 k3 hr7 hc7 HO
        go_wp2_with (at_builtin; (try simp only [hz]); refine wpList_append_run rfl _ _ rfl rfl rfl rfl R3.out ?_; clear R3)
        go_roundw
        case rel => exact ⟨k - 1, ds ++ [z], a2, c3, by go_num, by simp, by simp; omega, by simpa using HO8.out, HC9.out, HR9.out.mono (by simp; omega)⟩
        case measure => (simp [intOf]; try omega)
end Go.Proofs.YtnjoofpllhbccaaGreat
