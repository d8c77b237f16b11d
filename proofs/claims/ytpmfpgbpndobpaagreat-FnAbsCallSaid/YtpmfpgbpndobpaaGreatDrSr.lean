/- Lemmas and walks of this proof, some texts one behind the other. No condition. -/
import Derived.Test.YtpmfpgbpndobpaaGreatDrX
import Derived.Test.YtpmfpgbpndobpaaGreatSums
import Derived.Test.YtpmfpgbpndobpaaGreatDrG
import Derived.Test.YtpmfpgbpndobpaaGreatDrR
import Derived.Test.YtpmfpgbpndobpaaGreatDrU
import Derived.Test.YtpmfpgbpndobpaaGreatDrP
set_option linter.unusedSimpArgs false
set_option linter.unusedVariables false
/- The draws of sums: l21Sum, l21Sums. No condition. -/
namespace Go.Proofs.YtpmfpgbpndobpaaGreat
open Go.RowKit
set_option linter.unusedVariables false
set_option linter.unusedSimpArgs false
attribute [local go_sem] dg_cell dg_frozen dg_lt dg_lt1 dg_lt2 dg_ne dg_ne1 dg_ne2 dg_new dg_wen lt_s2 lt_s3 lt_s4 lt_s5 lt_s6

def IsSum (v : Value) : Prop := ∃ x : Sum, v = .agg x.cells.toArray
set_option maxRecDepth 100000 in
set_option maxHeartbeats 1000000 in
theorem sumG {g P : Nat} {n : Int} {w : World} (h : RdLe w g P) (hp : P + 24 ≤ 1099511627776) (hn : -1099511627776 ≤ n ∧ n ≤ 1099511627776) :
    Calls Tryz.prog 87 #[.pointer (some ⟨g, 0, none⟩), .int .i64 n] w (RetG IsSum g (P + 24) w) := by
  have lt0 := h.lt
  have ne0 : ¬ w.heap.size = g := by omega
  have H := Lib.hid h
  clear h
  go_enter Tryz.func87, Tryz.ntmps87
  go_wp2_with fail
  refine Calls.mono (oddG (k := n) (rd_al H.out _) (by omega) hn) ?_
  rintro e w1 ⟨v, rfl, ⟨o, rfl⟩, hr1, hc1⟩
  have B1 := Lib.hid ((Blk.new w 52 #[.bool false, .int .i64 0, .int .i64 0]).chg hc1 ne0)
  have C1 := Lib.hid (show ChgG g w w1 from (chg_al (ChgG.refl _ _) _).trans hc1)
  have R1 := Lib.hid hr1
  have l1 := B1.out.lt
  clear hr1 hc1
  cases o
  · go_wp2_with fail
    refine Calls.mono (pickG (k := 4) R1.out (by omega) (by omega)) ?_
    rintro e w2 ⟨v, rfl, ⟨j, rfl, hj⟩, hr2, hc2⟩
    have B2 := Lib.hid (B1.out.chg hc2 ne0)
    have C2 := Lib.hid (C1.out.trans hc2)
    have R2 := Lib.hid hr2
    have l2 := B2.out.lt
    clear hr2 hc2 hj
    by_cases hj0 : j = 0
    · subst hj0
      have z0 : w2.cell? ⟨w.heap.size, 0, none⟩ = some (.bool false) := B2.out.cell 0
      have z1 : w2.cell? ⟨w.heap.size, 1, none⟩ = some (.int .i64 0) := B2.out.cell 1
      have z2 : w2.cell? ⟨w.heap.size, 2, none⟩ = some (.int .i64 0) := B2.out.cell 2
      have zf := fun j => B2.out.frozen j
      go_wp2
      refine bodyPost_ret (by simp [results, Tryz.results87, go_sem, z0, z1, z2]; try rfl) rfl ?_
      exact ⟨_, rfl, ⟨⟨false, 0, 0⟩, rfl⟩, (rd_set (rd_set (rd_set R2.out lt0 _) lt0 _) lt0 _).mono (by omega), chg_set (chg_set (chg_set C2.out (Nat.le_refl _) _) (Nat.le_refl _) _) (Nat.le_refl _) _⟩
    · have hj1 : ¬ (j : Int) = 0 := by omega
      go_wp2_with fail
      refine Calls.mono (itvG (n := 99999) R2.out (by omega) (by omega)) ?_
      rintro e w3 ⟨v, rfl, ⟨lo, hi, rfl⟩, hr3, hc3⟩
      have B3 := Lib.hid (B2.out.chg hc3 ne0)
      have C3 := Lib.hid (C2.out.trans hc3)
      have R3 := Lib.hid hr3
      have l3 := B3.out.lt
      have z0 : w3.cell? ⟨w.heap.size, 0, none⟩ = some (.bool false) := B3.out.cell 0
      have z1 : w3.cell? ⟨w.heap.size, 1, none⟩ = some (.int .i64 0) := B3.out.cell 1
      have z2 : w3.cell? ⟨w.heap.size, 2, none⟩ = some (.int .i64 0) := B3.out.cell 2
      have zf := fun j => B3.out.frozen j
      clear hr3 hc3
      go_wp2
      refine bodyPost_ret (by simp [results, Tryz.results87, go_sem, z0, z1, z2]; try rfl) rfl ?_
      exact ⟨_, rfl, ⟨⟨true, lo, hi⟩, rfl⟩, (rd_set (rd_set (rd_set R3.out lt0 _) lt0 _) lt0 _).mono (by omega), chg_set (chg_set (chg_set C3.out (Nat.le_refl _) _) (Nat.le_refl _) _) (Nat.le_refl _) _⟩
  · go_wp2_with fail
    refine Calls.mono (pickG (k := 2) R1.out (by omega) (by omega)) ?_
    rintro e w2 ⟨v, rfl, ⟨j, rfl, hj⟩, hr2, hc2⟩
    have B2 := Lib.hid (B1.out.chg hc2 ne0)
    have C2 := Lib.hid (C1.out.trans hc2)
    have R2 := Lib.hid hr2
    have l2 := B2.out.lt
    have z0 : w2.cell? ⟨w.heap.size, 0, none⟩ = some (.bool false) := B2.out.cell 0
    have z1 : w2.cell? ⟨w.heap.size, 1, none⟩ = some (.int .i64 0) := B2.out.cell 1
    have z2 : w2.cell? ⟨w.heap.size, 2, none⟩ = some (.int .i64 0) := B2.out.cell 2
    have zf := fun j => B2.out.frozen j
    clear hr2 hc2 hj
    go_wp2
    refine bodyPost_ret (by simp [results, Tryz.results87, go_sem, z0, z1, z2]; try rfl) rfl ?_
    exact ⟨_, rfl, ⟨⟨_, 5, 4⟩, rfl⟩, (rd_set (rd_set (rd_set R2.out lt0 _) lt0 _) lt0 _).mono (by omega), chg_set (chg_set (chg_set C2.out (Nat.le_refl _) _) (Nat.le_refl _) _) (Nat.le_refl _) _⟩
/-- A row of sums came back, in memory of its own. -/
def RetSs (g P : Nat) (w : World) (e : Ending) (w' : World) : Prop := ∃ (a : Option Addr) (m c : Nat) (ss : List Sum), e = .returned (.slice a m c) ∧ w'.ownsRow w.heap.size 52 3 (.slice a m c) m (ss.flatMap Sum.cells) ∧ ss.length = m ∧ m ≤ 6 ∧ RdLe w' g P ∧ ChgG g w w'
/-- A row of sums that grows while sums are drawn. -/
structure SsI (g P k : Nat) (w0 : World) (B : Nat) (v : Value) (ss : List Sum) (W : World) : Prop where
  ch : ChgG g w0 W
  rd : RdLe W g P
  row : W.ownsRow B 52 3 v k (ss.flatMap Sum.cells)
  len : ss.length = k
theorem SsI.cg {g P P' k B : Nat} {w0 W W' : World} {v : Value} {ss : List Sum} (h : SsI g P k w0 B v ss W) (c : ChgG g W W') (r : RdLe W' g P') (hB : g < B) : SsI g P' k w0 B v ss W' := ⟨h.ch.trans c, r, owns_chg h.row c (fun b hb e => by have := (h.row.lt b hb).1; omega), h.len⟩
theorem SsI.app {g P k B : Nat} {w0 W : World} {a : Option Addr} {c : Nat} {ss : List Sum} (h : SsI g P k w0 B (.slice a k c) ss W) (hB : g < B) (hw : w0.heap.size ≤ B) (hBW : B ≤ W.heap.size) (hk : k ≤ 1000) (x : Sum) :
    ∃ a2 c2 W2, (Builtin.append_ #[26, 26] 26 #[.slice a k c, .slice (some ⟨W.heap.size, 0, none⟩) 1 1]).run Tryz.prog (W.alloc (.cells x.cells.toArray 52)) = .ok (.slice a2 (k + 1) c2) W2 ∧ SsI g P (k + 1) w0 B (.slice a2 (k + 1) c2) (ss ++ [x]) W2 ∧ Chg (fun b => (Value.slice a k c).ownBlock = some b) W W2 ∧ (∀ b, (Value.slice a k c).ownBlock = some b → B ≤ b) := by
  obtain ⟨v3, w3, hrun3, o3, g3, hv⟩ := owns_append_lit (P := Tryz.prog) W sumEl h.row 1 x.cells rfl (fun u hu => sum_one [x] u (by simpa using hu)) (by omega) (by omega) hBW
  obtain ⟨a2, c2, rfl⟩ := owns_slice o3
  have hc := Chg.of_grownBy g3
  have hge : ∀ b, (Value.slice a k c).ownBlock = some b → B ≤ b := fun b hb => (h.row.lt b hb).1
  exact ⟨a2, c2, w3, hrun3, ⟨chg_own h.ch hc (fun b hb => Nat.le_trans hw (hge b hb)), rd_own h.rd hc hge hB, by rw [List.flatMap_append]; simpa using o3, by rw [List.length_append, h.len]; rfl⟩, hc, hge⟩
theorem sets_sum (x : Sum) : ∀ (ss : List Sum) (u : Nat), u < ss.length → sets (ss.flatMap Sum.cells) (u * 3) x.cells = (ss.set u x).flatMap Sum.cells
  | [], u, h => by simp at h
  | y :: ss, 0, _ => by
    simp [Sum.cells, sets]
  | y :: ss, u + 1, h => by
    have ih := sets_sum x ss u (by simpa using h)
    have hb := sets_behind x.cells y.cells (ss.flatMap Sum.cells) (u * 3)
    rw [List.flatMap_cons, List.set_cons_succ, List.flatMap_cons, ← ih, ← hb, sum_len, show (u + 1) * 3 = 3 + u * 3 from by omega]
set_option maxRecDepth 100000 in
set_option maxHeartbeats 2000000 in
theorem sumsG {g P : Nat} {n : Int} {pa : Option Addr} {pn pc : Nat} {w : World} (h : RdLe w g P) (hp : P + 200 ≤ 1099511627776) (hn : -1099511627776 ≤ n ∧ n ≤ 1099511627776) (hpn : pn ≤ 5) :
    Calls Tryz.prog 41 #[.pointer (some ⟨g, 0, none⟩), .agg #[.slice pa pn pc], .int .i64 n] w (RetSs g (P + 150) w) := by
  have lt0 := h.lt
  have ne0 : ¬ w.heap.size = g := by omega
  have H := Lib.hid h
  obtain ⟨B, hB⟩ : ∃ B, w.heap.size + 1 = B := ⟨_, rfl⟩
  have hgB : g < B := by omega
  have hwB : w.heap.size ≤ B := by omega
  have HB := Lib.hid hB
  have hBx : w.heap.size < B := by omega
  clear h hB
  go_enter Tryz.func41, Tryz.ntmps41
  go_wp2
  simp only [HB.out]
  refine wp_let_c ?_
  intro E hE
  have hEB : E.heap.size = B + 1 := by rw [hE, ← HB.out]; simp only [World.size_alloc]
  have HT0 : Hid (SsI g P 0 w B (.slice (some ⟨B, 0, none⟩) 0 0) [] E) := Lib.hid (by
    rw [hE]
    refine ⟨chg_al (chg_al (ChgG.refl _ _) _) _, rd_al (rd_al H.out _) _, ?_, rfl⟩
    have := World.ownsRow_lit (w.alloc (.cells #[.slice pa pn pc] 25)) (e := 52) (size := 3) #[] 0 (base := B) (by simp only [World.size_alloc]; have := HB.out; omega) (Nat.zero_le _) rfl
    simpa [HB.out] using this)
  have HX : Hid (Blk E w.heap.size 25 #[.slice pa pn pc]) := Lib.hid (by rw [hE]; exact Blk.alloc (Blk.new w _ _) _)
  have HSRC : Hid (∀ W, ChgG g w W → (∃ q : World, Blk q w.heap.size 25 #[.slice pa pn pc] ∧ ChgG g q W) → Blk W w.heap.size 25 #[.slice pa pn pc]) := Lib.hid (fun W _ ⟨q, h1, h2⟩ => h1.chg h2 ne0)
  clear hE
  go_loopw [7, 8] (fun v i wr => ∃ (k : Nat) (a1 : Option Addr) (c1 : Nat) (ss : List Sum), k ≤ pn ∧ i = .int .i64 k ∧ v = .slice a1 k c1 ∧ SsI g (P + 24 * k) k w B (.slice a1 k c1) ss wr ∧ Blk wr w.heap.size 25 #[.slice pa pn pc] ∧ B ≤ wr.heap.size) (fun _ i _ => pn - (intOf i).toNat)
  case atStart => exact ⟨0, _, _, [], Nat.zero_le _, rfl, rfl, HT0.out, HX.out, by omega⟩
  case round =>
    clear HT0 HX HSRC hEB
    obtain ⟨k, a1, c1, ss, hk, rfl, rfl, hT, hbx, hBr⟩ := hrel
    have HT := Lib.hid hT
    have HBX := Lib.hid hbx
    have s0 : wr.cell? ⟨w.heap.size, 0, none⟩ = some (.slice pa pn pc) := hbx.cell 0
    have sl := hbx.lt
    clear hT hbx
    by_cases hlt : k < pn
    · have hki : (k : Int) < (pn : Int) := by omega
      go_wp2_with fail
      refine Calls.mono (sumG (n := 99999) HT.out.rd (by omega) (by omega)) ?_
      rintro e w2 ⟨v, rfl, ⟨x, rfl⟩, hr2, hc2⟩
      have hs2 := hc2.size
      obtain ⟨a2, c2, w3, hrun, hT3, hc3, hge3⟩ := (HT.out.cg hc2 hr2 hgB).app hgB hwB (by omega) (by omega) x
      have HT3 := Lib.hid hT3
      have HB3 := Lib.hid (show Blk w3 w.heap.size 25 #[.slice pa pn pc] from (HBX.out.chg hc2 ne0).chg hc3 (fun e => by have := hge3 _ e; omega))
      have hB3 : B ≤ w3.heap.size := by have := hc3.size; omega
      obtain ⟨on, xl, xh⟩ := x
      simp only [Sum.cells] at hrun ⊢
      have HRun := Lib.hid hrun
      clear hrun hT3 hr2 hc2 s0 sl hc3 hge3
      go_wp2_with (at_builtin; refine wpList_append_run rfl _ _ rfl rfl rfl rfl HRun.out ?_; clear HRun)
      go_roundw
      case rel => exact ⟨k + 1, a2, c2, _, by omega, by go_num, rfl, HT3.out, HB3.out, hB3⟩
      case measure => simp [intOf]; omega
    · obtain rfl : k = pn := by omega
      have hnl : ¬ (k : Int) < (k : Int) := by omega
      clear HBX
      go_wp2_with fail
      refine Calls.mono (oddG (k := n) HT.out.rd (by omega) hn) ?_
      rintro e w2 ⟨v, rfl, ⟨o, rfl⟩, hr2, hc2⟩
      have HT2 := Lib.hid (HT.out.cg hc2 hr2 hgB)
      have hB2 : B ≤ w2.heap.size := by have := hc2.size; omega
      clear hr2 hc2 HT s0 sl
      cases o
      · go_wp2
        go_ret
        exact ⟨a1, k, c1, ss, rfl, owns_mono HT2.out.row hwB, HT2.out.len, by omega, HT2.out.rd.mono (by omega), HT2.out.ch⟩
      · go_wp2_with fail
        refine Calls.mono (pickG (k := 2) HT2.out.rd (by omega) (by omega)) ?_
        rintro e w3 ⟨v, rfl, ⟨j, rfl, hj⟩, hr3, hc3⟩
        have hj := hj (by omega)
        have HT3 := Lib.hid (HT2.out.cg hc3 hr3 hgB)
        have hB3 : B ≤ w3.heap.size := by have := hc3.size; omega
        clear hr3 hc3 HT2
        by_cases hj0 : j = 0
        · subst hj0
          obtain ⟨a2, c2, w4, hrun, hT4, -, -⟩ := HT3.out.app hgB hwB (by omega) (by omega) ⟨false, 0, 0⟩
          simp only [Sum.cells] at hrun
          have HRun := Lib.hid hrun
          have HT4 := Lib.hid hT4
          clear hrun hT4
          go_wp2_with (at_builtin; refine wpList_append_run rfl _ _ rfl rfl rfl rfl HRun.out ?_; clear HRun)
          go_ret
          exact ⟨a2, k + 1, c2, _, rfl, owns_mono HT4.out.row hwB, HT4.out.len, by omega, HT4.out.rd.mono (by omega), HT4.out.ch⟩
        · have hj1 : ¬ (j : Int) = 0 := by omega
          by_cases hk0 : k = 0
          · subst hk0
            go_wp2
            go_ret
            exact ⟨a1, 0, c1, ss, rfl, owns_mono HT3.out.row hwB, HT3.out.len, by omega, HT3.out.rd.mono (by omega), HT3.out.ch⟩
          · have hkp : (0 : Int) < (k : Int) := by omega
            go_wp2_with fail
            refine Calls.mono (pickG (k := (k : Int)) HT3.out.rd (by omega) (by omega)) ?_
            rintro e w4 ⟨v, rfl, ⟨q, rfl, hq⟩, hr4, hc4⟩
            have hq := hq (by omega)
            have HT4 := Lib.hid (HT3.out.cg hc4 hr4 hgB)
            clear hr4 hc4 HT3
            go_wp2_with fail
            refine Calls.mono (sumG (n := 1) HT4.out.rd (by omega) (by omega)) ?_
            rintro e w5 ⟨v, rfl, ⟨x, rfl⟩, hr5, hc5⟩
            have HT5 := Lib.hid (HT4.out.cg hc5 hr5 hgB)
            clear hr5 hc5 HT4
            obtain ⟨on, xl, xh⟩ := x
            simp only [Sum.cells]
            obtain ⟨tb, rfl⟩ : ∃ tb, a1 = some ⟨tb, 0, none⟩ := by
              rcases HT5.out.row.2 with ⟨h1, h2⟩ | ⟨g', cap', cur, h1, _⟩
              · omega
              · simp only [Value.slice.injEq] at h1
                exact ⟨g', h1.1⟩
            have hlen : (ss.flatMap Sum.cells).length = k * 3 := HT5.out.row.1
            have hqk : q < k := by omega
            obtain ⟨y0, e0⟩ := own_some HT5.out.row (j := q * 3) (by omega)
            obtain ⟨y1, e1⟩ := own_some HT5.out.row (j := q * 3 + 1) (by omega)
            obtain ⟨y2, e2⟩ := own_some HT5.out.row (j := q * 3 + 2) (by omega)
            have ff := fun j => HT5.out.row.frozenAt j
            have tl := World.block_lt_of_cell? _ _ e0
            simp only at tl
            have HLEN := Lib.hid hlen
            obtain ⟨o6, g6⟩ := own_sets [.bool on, .int .i64 xl, .int .i64 xh] _ _ (q * 3) HT5.out.row
            have hS := sets_sum ⟨on, xl, xh⟩ ss q (by rw [HT5.out.len]; exact hqk)
            simp only [Sum.cells] at hS
            have HO6 := Lib.hid o6
            have HSS := Lib.hid hS
            have HG6 := Lib.hid g6
            clear o6 g6 hS hlen
            go_wp2
            go_ret
            refine ⟨some ⟨tb, 0, none⟩, k, c1, ss.set q ⟨on, xl, xh⟩, rfl, ?_, by rw [List.length_set, HT5.out.len], by omega, ?_, ?_⟩
            · have := owns_mono HO6.out hwB
              try simp only [Sum.cells] at this
              try simp only [Sum.cells]
              rw [HSS.out] at this
              exact this
            · exact (rd_own HT5.out.rd (Chg.of_grownBy HG6.out) (fun b hb => (HT5.out.row.lt b hb).1) hgB).mono (by omega)
            · exact chg_own HT5.out.ch (Chg.of_grownBy HG6.out) (fun b hb => Nat.le_trans hwB (HT5.out.row.lt b hb).1)
end Go.Proofs.YtpmfpgbpndobpaaGreat

/- The draw DrawPrgAt. No condition. -/
namespace Go.Proofs.YtpmfpgbpndobpaaGreat
open Go.RowKit
set_option linter.unusedVariables false
set_option linter.unusedSimpArgs false
attribute [local go_sem] dg_cell dg_frozen dg_lt dg_lt1 dg_lt2 dg_ne dg_ne1 dg_ne2 dg_new dg_wen lt_s2 lt_s3 lt_s4 lt_s5 lt_s6

/-- A program in memory that is there. -/
def PrgIn (w : World) (a : Option Addr) (n : Nat) (ps : List Prc) : Prop := RdP w a n ps ∧ n ≤ 5 ∧ ∀ p, p ∈ ps → p.code.length ≤ 12
theorem PrgIn.grew {w w' : World} {a : Option Addr} {n : Nat} {ps : List Prc} (h : PrgIn w a n ps) (hg : Grew w w') : PrgIn w' a n ps := ⟨h.1.grew hg, h.2⟩
theorem PrgIn.of {w : World} {B n cap : Nat} {a : Option Addr} {ms : List (Prc × Value)} (h : OwnP w B (.slice a n cap) n ms) (hn : n ≤ 5) (hm : ∀ m, m ∈ ms → m.1.code.length ≤ 12) : PrgIn w a n (ms.map (·.1)) :=
  ⟨h.rd, hn, fun p hp => by obtain ⟨m, hm1, rfl⟩ := List.mem_map.1 hp; exact hm m hm1⟩
theorem PrgIn.len {w : World} {a : Option Addr} {n : Nat} {ps : List Prc} (h : PrgIn w a n ps) : ps.length = n := h.1.len

end Go.Proofs.YtpmfpgbpndobpaaGreat

/- The draw DrawRunNew. No condition. -/
namespace Go.Proofs.YtpmfpgbpndobpaaGreat
open Go.RowKit
set_option linter.unusedVariables false
set_option linter.unusedSimpArgs false
attribute [local go_sem] dg_cell dg_frozen dg_lt dg_lt1 dg_lt2 dg_ne dg_ne1 dg_ne2 dg_new dg_wen lt_s2 lt_s3 lt_s4 lt_s5 lt_s6

theorem OwnP.chgG {g B m : Nat} {w W : World} {v : Value} {ms : List (Prc × Value)} (h : OwnP w B v m ms) (c : ChgG g w W) (hg : g < B) : OwnP W B v m ms :=
  ⟨h.1, owns_chg h.2.1 c (fun b hb e => by have := (h.2.1.lt b hb).1; omega), fun q hq => owns_chg (h.2.2 q hq) c (fun b hb e => by have := ((h.2.2 q hq).lt b hb).1; omega)⟩
end Go.Proofs.YtpmfpgbpndobpaaGreat

/- States: how they lie in memory; compared, marked; what comes to a procedure's beginning. No condition. -/
namespace Go.Proofs.YtpmfpgbpndobpaaGreat
open Go.RowKit
set_option linter.unusedVariables false
attribute [local go_sem] ext_cell ext_frozen ext_lt ext_le ext_le1 lt_s2 lt_s3 lt_s4 lt_s5 lt_s6 ext_lt1 ext_lt2 ext_lt3

/-- A state. -/
structure St where
  on : Bool
  vars : List Itv
  lo : Int
  hi : Int
  deriving DecidableEq
/-- A state by value, its variables in a row that a call owns. -/
def OwnSt (w : World) (B : Nat) (val : Value) (s : St) : Prop :=
  ∃ a c, val = .agg #[.bool s.on, .slice a s.vars.length c, .int .i64 s.lo, .int .i64 s.hi] ∧ w.ownsRow B 31 2 (.slice a s.vars.length c) s.vars.length (s.vars.flatMap Itv.cells)

theorem cloneItv (a : Option Addr) (n cap : Nat) (xs : List Itv) (w : World) (hr : RdL EItv 2 w a n xs) (hrd : Rd w a n 2 (xs.flatMap Itv.cells)) (hn : 0 < n) (hm : n ≤ 1048576) :
    Calls Tryz.prog 103 #[.slice a n cap] w fun e w' => ∃ a' c', e = .returned (.slice a' n c') ∧ w'.ownsRow w.heap.size 31 2 (.slice a' n c') n (xs.flatMap Itv.cells) ∧ Grew w w' := by
  obtain ⟨b, off, lo, hi, rfl, hx, c0, c1, hb⟩ := rdItv_at hr hn
  have h0 : (w.alloc (.cells #[] 31)).ownsRow w.heap.size 31 2 (.slice (some ⟨w.heap.size, 0, none⟩) 0 0) 0 [] := World.ownsRow_lit w #[] 0 (Nat.le_refl _) (Nat.zero_le _) rfl
  obtain ⟨v1, w1, hrun, o1, g1, -⟩ := owns_append (P := Tryz.prog) _ itvEl h0 _ n cap _ (hrd.grew ((Below.refl _ _).alloc (Nat.le_refl _) _)) (itv_one _) (by omega) (by omega) (by simp)
  simp only [Nat.zero_add, List.nil_append] at o1
  have b1 : Grew w w1 := ((Below.refl _ _).alloc (Nat.le_refl _) _).grown g1 (by simp) (fun j hj => by simp [Value.ownBlock] at hj; omega)
  obtain ⟨a', c', rfl⟩ := owns_slice o1
  have R := Lib.hid hrun; clear hrun
  have O := Lib.hid o1; clear o1
  have G := Lib.hid b1; clear b1 g1 h0 hr hrd hx c0 c1
  have q : ∀ (w : World) (a : Option Addr) (n c n' c' : Nat), (binOp .eql 29 (.slice a n c) (.slice none n' c')).run Tryz.prog w = .ok (.bool a.isNone) w := fun w a n c n' c' => Lib.run_eql_slice_nil w _ _ a n c n' c' Tryz.underlying29
  go_enter Tryz.func103, Tryz.ntmps103
  go_wp2_with (at_builtin; refine wpList_append_run rfl _ _ rfl rfl rfl rfl R.out ?_)
  go_ret
  exact ⟨a', c', rfl, O.out, G.out⟩

/-- A state behind a pointer: four variables and the cells. -/
def stArr (a b c d e : Itv) : Array Value := #[.int .i64 a.lo, .int .i64 a.hi, .int .i64 b.lo, .int .i64 b.hi, .int .i64 c.lo, .int .i64 c.hi, .int .i64 d.lo, .int .i64 d.hi, .int .i64 e.lo, .int .i64 e.hi]

/-- A row of cells in the midst of a block reads. -/
theorem rd_blk {w : World} {g : Nat} {t : TypeId} {cs : Array Value} (h : Blk w g t cs) (off n size : Nat) (xs : List Value) (hl : xs.length = n * size) (hx : ∀ j u, xs[j]? = some u → cs[off + j]? = some u) : Rd w (some ⟨g, off, none⟩) n size xs :=
  ⟨hl, .inr ⟨g, off, rfl, fun j u hu => by rw [h.cell]; exact hx j u hu⟩⟩

set_option maxHeartbeats 1000000 in
theorem stAbs (g : Nat) (a b c d e : Itv) (w : World) (hb : Blk w g 110 (stArr a b c d e)) :
    Calls Tryz.prog 55 #[.pointer (some ⟨g, 0, none⟩)] w fun en w' => ∃ val, en = .returned val ∧ OwnSt w' w.heap.size val ⟨true, [a, b, c, d], e.lo, e.hi⟩ ∧ Grew w w' := by
  have hrd := rd_blk hb 0 4 2 ([a, b, c, d].flatMap Itv.cells) rfl (fun j u hu => by
    rw [Nat.zero_add]
    match j, hu with
    | 0, hu => exact hu
    | 1, hu => exact hu
    | 2, hu => exact hu
    | 3, hu => exact hu
    | 4, hu => exact hu
    | 5, hu => exact hu
    | 6, hu => exact hu
    | 7, hu => exact hu
    | (k + 8), hu => simp [Itv.cells] at hu)
  have hrl : RdL EItv 2 w (some ⟨g, 0, none⟩) 4 [a, b, c, d] := rdl_of_rd Itv.cells (by omega) itv_len rfl hrd (fun x _ => rfl)
  have HRD := Lib.hid hrd; clear hrd
  have HRL := Lib.hid hrl; clear hrl
  have hlt := hb.lt
  have c8 : w.cell? ⟨g, 8, none⟩ = some (.int .i64 e.lo) := hb.cell 8
  have c9 : w.cell? ⟨g, 9, none⟩ = some (.int .i64 e.hi) := hb.cell 9
  obtain ⟨q0, q1, q2⟩ := lt3 hlt
  clear hb
  have nq : ∀ (w : World) (p : Addr), (binOp .eql 97 (.pointer (some p)) (.pointer none)).run Tryz.prog w = .ok (.bool false) w := fun w p => by simp [go_sem]
  go_enter Tryz.func55, Tryz.ntmps55
  go_wp2_with fail
  go_region_held3 (fun W => W.cell? ⟨g, 8, none⟩ = some (.int .i64 e.lo) ∧ W.cell? ⟨g, 9, none⟩ = some (.int .i64 e.hi)) (first | assumption | (refine ⟨?_, ?_⟩ <;> simp [go_sem, *]))
    (first
    | (go_at_call 103; refine (cloneItv _ 4 4 [a, b, c, d] _ (HRL.out.grew staysItv (gr)) (HRD.out.grew (gr)) (by omega) (by omega)).mono ?_; rintro e' w1 ⟨a', c', rfl, o1, g1⟩; have O1 := Lib.hid o1; clear o1; (first | obtain ⟨y, rfl⟩ := ext_cold g1 | obtain ⟨y, rfl⟩ := ext_col g1 | obtain ⟨y, rfl⟩ := ext_of g1); clear g1))
  go_wp2
  go_returns
  refine ⟨_, rfl, ⟨a', c', rfl, ?_⟩, ?_⟩
  · exact owns_mono (owns_set (owns_set (owns_set (owns_set O1.out (by simp) _) (by simp) _) (by simp) _) (by simp) _) (by simp <;> omega)
  · exact gr

end Go.Proofs.YtpmfpgbpndobpaaGreat

/- Rows of bounds of a drawn state: their cells are numbers. No condition. -/
namespace Go.Proofs.YtpmfpgbpndobpaaGreat
open Go.RowKit
set_option linter.unusedVariables false
set_option linter.unusedSimpArgs false

/-- The first eight cells of a block of bounds are numbers. -/
def RowB (t : Nat) (W : World) : Prop := ∃ arr : Array Value, Blk W t 31 arr ∧ ∀ i, i < 8 → ∃ x : Int, arr[i]? = some (.int .i64 x)
section
variable {t : Nat} {W W' : World}
theorem RowB.lt (h : RowB t W) : t < W.heap.size := by obtain ⟨arr, h, _⟩ := h; exact h.lt
theorem RowB.fz (h : RowB t W) (j : Nat) : W.frozen? ⟨t, j, none⟩ = false := by obtain ⟨arr, h, _⟩ := h; exact h.frozen j
theorem RowB.get (h : RowB t W) {i : Nat} (hi : i < 8) : ∃ x : Int, W.cell? ⟨t, i, none⟩ = some (.int .i64 x) := by
  obtain ⟨arr, h, h2⟩ := h
  obtain ⟨x, hx⟩ := h2 i hi
  exact ⟨x, (h.cell i).trans hx⟩
theorem RowB.set (h : RowB t W) {i : Nat} (hi : i < 8) (x : Int) : RowB t (W.setCell ⟨t, i, none⟩ (.int .i64 x)) := by
  obtain ⟨arr, h, h4⟩ := h
  refine ⟨_, h.set_ i _, fun j hj => ?_⟩
  by_cases e : i = j
  · subst e
    obtain ⟨y, hy⟩ := h4 i hi
    have hs : i < arr.size := (Array.getElem?_eq_some_iff.1 hy).1
    exact ⟨x, by rw [Array.getElem?_setIfInBounds, if_pos rfl, if_pos hs]⟩
  · obtain ⟨y, hy⟩ := h4 j hj
    exact ⟨y, by rw [Array.getElem?_setIfInBounds, if_neg e]; exact hy⟩
theorem RowB.chg {F : Nat → Prop} (h : RowB t W) (c : Chg F W W') (hF : ¬ F t) : RowB t W' := by
  obtain ⟨arr, h, h1⟩ := h
  exact ⟨arr, h.chg c hF, h1⟩
theorem RowB.far {p : Addr} (h : RowB t W) (hp : t ≠ p.block) (u : Value) : RowB t (W.setCell p u) := by
  obtain ⟨arr, h, h1⟩ := h
  exact ⟨arr, h.far hp u, h1⟩
theorem itv_of_ints : ∀ (n : Nat) (l : List Value), l.length = n * 2 → (∀ i, i < n * 2 → ∃ x : Int, l[i]? = some (.int .i64 x)) → ∃ xs : List Itv, xs.length = n ∧ xs.flatMap Itv.cells = l
  | 0, l, hl, _ => ⟨[], rfl, by simp [List.eq_nil_of_length_eq_zero (by omega : l.length = 0)]⟩
  | n + 1, l, hl, h => by
    obtain ⟨x0, h0⟩ := h 0 (by omega)
    obtain ⟨x1, h1⟩ := h 1 (by omega)
    obtain ⟨xs, hi1, hi2⟩ := itv_of_ints n (l.drop 2) (by rw [List.length_drop]; omega) (fun i hi => by
      obtain ⟨x, hx⟩ := h (2 + i) (by omega)
      exact ⟨x, by rw [List.getElem?_drop]; exact hx⟩)
    refine ⟨⟨x0, x1⟩ :: xs, by simp [hi1], ?_⟩
    rw [List.flatMap_cons, hi2]
    have e : l = l.take 2 ++ l.drop 2 := (List.take_append_drop 2 l).symm
    have e2 : l.take 2 = Itv.cells ⟨x0, x1⟩ := by
      apply List.ext_getElem?
      intro i
      rw [List.getElem?_take]
      rcases i with _ | _ | i
      · simpa [Itv.cells] using h0
      · simpa [Itv.cells] using h1
      · rw [if_neg (by omega), List.getElem?_eq_none (by simp [Itv.cells])]
    rw [← e2]
    exact e.symm
theorem RowB.rd (h : RowB t W) {n : Nat} (hn : n ≤ 4) : ∃ xs : List Itv, RdL EItv 2 W (some ⟨t, 0, none⟩) n xs := by
  obtain ⟨arr, h, h4⟩ := h
  have hsz : 8 ≤ arr.size := by
    obtain ⟨y, hy⟩ := h4 7 (by omega)
    have := (Array.getElem?_eq_some_iff.1 hy).1
    omega
  obtain ⟨xs, hi1, hi2⟩ := itv_of_ints n (arr.toList.take (n * 2)) (by rw [List.length_take, Array.length_toList]; omega) (fun i hi => by
    obtain ⟨x, hx⟩ := h4 i (by omega)
    exact ⟨x, by rw [List.getElem?_take, if_pos hi]; simpa using hx⟩)
  have hrd : Rd W (some ⟨t, 0, none⟩) n 2 (xs.flatMap Itv.cells) := ⟨by rw [hi2, List.length_take, Array.length_toList]; omega, .inr ⟨t, 0, rfl, fun j u hu => by
    rw [Nat.zero_add]
    rw [hi2, List.getElem?_take] at hu
    split at hu
    · exact (h.cell j).trans (by simpa using hu)
    · cases hu⟩⟩
  exact ⟨xs, rdl_of_rd Itv.cells (by omega) itv_len hi1 hrd (fun x _ => rfl)⟩
theorem RowB.of_own {B cap : Nat} {a : Option Addr} {xs : List Itv} (h : W.ownsRow B 31 2 (.slice a 4 cap) 4 (xs.flatMap Itv.cells)) : ∃ t, a = some ⟨t, 0, none⟩ ∧ B ≤ t ∧ 4 ≤ cap ∧ RowB t W := by
  obtain ⟨h1, h2⟩ := h
  rcases h2 with ⟨e, e2⟩ | ⟨g', cap', cur, e, h3, h4, h5, h6, h7, h8⟩
  · omega
  simp only [Value.slice.injEq, true_and] at e
  obtain ⟨rfl, rfl⟩ := e
  have hl : xs.length * 2 = 4 * 2 := by rw [← h1, flat_len Itv.cells 2 itv_len]
  refine ⟨g', rfl, h3, h5, cur, h4, fun i hi => ?_⟩
  have hx : (xs.flatMap Itv.cells)[i]? = cur[i]? := by rw [← h8, List.getElem?_take, if_pos (by omega)]; simp
  have hk : i / 2 < xs.length := by omega
  have hj : i % 2 < 2 := Nat.mod_lt _ (by omega)
  have hf := flat_get Itv.cells 2 itv_len xs (i / 2) (xs[i / 2]) (i % 2) ((Itv.cells (xs[i / 2])).getD (i % 2) undef) (List.getElem?_eq_getElem hk) (by rw [List.getD_eq_getElem?_getD, List.getElem?_eq_getElem (by rw [itv_len]; exact hj)]; rfl)
  rw [show i / 2 * 2 + i % 2 = i from by omega, hx] at hf
  rw [hf]
  generalize xs[i / 2] = q
  generalize i % 2 = j at hj
  have hj8 : j = 0 ∨ j = 1 := by omega
  rcases hj8 with rfl | rfl <;> exact ⟨_, rfl⟩
end
/-- The variables of a drawn state. -/
def StD (W : World) (B : Nat) (a : Option Addr) (n c : Nat) : Prop := n ≤ c ∧ n ≤ 4 ∧ ((n = 0 ∧ a = none) ∨ ∃ t, a = some ⟨t, 0, none⟩ ∧ B ≤ t ∧ RowB t W)
theorem StD.zero (W : World) (B : Nat) : StD W B none 0 0 := ⟨Nat.le_refl _, by omega, .inl ⟨rfl, rfl⟩⟩
theorem StD.chg {F : Nat → Prop} {W W' : World} {B n c : Nat} {a : Option Addr} (h : StD W B a n c) (k : Chg F W W') (hF : ∀ t, a = some ⟨t, 0, none⟩ → B ≤ t → ¬ F t) : StD W' B a n c := by
  obtain ⟨h1, h2, h3 | ⟨t, h3, h4, h5⟩⟩ := h
  · exact ⟨h1, h2, .inl h3⟩
  · exact ⟨h1, h2, .inr ⟨t, h3, h4, h5.chg k (hF t h3 h4)⟩⟩
theorem StD.grew {W W' : World} {B n c : Nat} {a : Option Addr} (h : StD W B a n c) (k : Grew W W') : StD W' B a n c := h.chg (F := fun _ => False) (Chg.of_below k) (fun _ _ _ e => e)
theorem StD.rd {W : World} {B n c : Nat} {a : Option Addr} (h : StD W B a n c) : ∃ xs : List Itv, RdL EItv 2 W a n xs := by
  obtain ⟨h1, h2, ⟨rfl, rfl⟩ | ⟨t, rfl, h4, h5⟩⟩ := h
  · exact ⟨[], rfl, .inl rfl⟩
  · exact h5.rd h2
theorem StD.mono {W : World} {B B' n c : Nat} {a : Option Addr} (h : StD W B a n c) (hB : B' ≤ B) : StD W B' a n c := by
  obtain ⟨h1, h2, h3 | ⟨t, h3, h4, h5⟩⟩ := h
  · exact ⟨h1, h2, .inl h3⟩
  · exact ⟨h1, h2, .inr ⟨t, h3, Nat.le_trans hB h4, h5⟩⟩
/-- A drawn state, by value. -/
def RetSD (g P : Nat) (w : World) (e : Ending) (w' : World) : Prop := ∃ on a n c lo hi, e = .returned (.agg #[.bool on, .slice a n c, .int .i64 lo, .int .i64 hi]) ∧ StD w' w.heap.size a n c ∧ RdLe w' g P ∧ ChgG g w w'
end Go.Proofs.YtpmfpgbpndobpaaGreat
