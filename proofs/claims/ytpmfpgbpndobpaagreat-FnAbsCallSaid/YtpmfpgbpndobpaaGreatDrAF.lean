/- The draw DrawAbsFails: a program, a step, a state. No condition. -/
import Derived.Test.YtpmfpgbpndobpaaGreatDrSr
import Derived.Test.YtpmfpgbpndobpaaGreatDrAI
import Derived.Test.YtpmfpgbpndobpaaGreatDrU
import Derived.Test.YtpmfpgbpndobpaaGreatTwo
import Derived.Test.YtpmfpgbpndobpaaGreatRegG
import Derived.Deep.DeepCutAuto
namespace Go.Proofs.YtpmfpgbpndobpaaGreat
open Go.RowKit
set_option linter.unusedVariables false
set_option linter.unusedSimpArgs false
attribute [local go_sem] dg_cell dg_frozen dg_lt dg_lt1 dg_lt2 dg_ne dg_ne1 dg_ne2 dg_new dg_wen lt_s2 lt_s3 lt_s4 lt_s5 lt_s6

abbrev Zi8 : Array Value := #[.int .i64 0, .int .i64 0, .int .i64 0, .int .i64 0, .int .i64 0, .int .i64 0, .int .i64 0, .int .i64 0]
/-- A program, a step and a state were drawn. -/
def RetAF (w : World) (e : Ending) (w' : World) : Prop := ∃ (pa : Option Addr) (m pc : Nat) (ms : List (Prc × Value)) (i : Ins) (on : Bool) (sa : Option Addr) (sn sc : Nat) (lo hi : Int),
  e = .returned (.tuple #[.agg #[.slice pa m pc], i.v, .agg #[.bool on, .slice sa sn sc, .int .i64 lo, .int .i64 hi]]) ∧ OwnP w' w.heap.size (.slice pa m pc) m ms ∧ m ≤ 5 ∧ (∀ q, q ∈ ms → q.1.code.length ≤ 12) ∧ StD w' w.heap.size sa sn sc ∧ Grew w w'
/-- A box of a step. -/
def InsB (W : World) (b : Nat) : Prop := ∃ i : Ins, Blk W b 28 i.cells.toArray
theorem InsB.cg {g b : Nat} {W W' : World} (h : InsB W b) (c : ChgG g W W') (hb : ¬ b = g) : InsB W' b := by
  obtain ⟨i, h⟩ := h
  exact ⟨i, h.chg c hb⟩
theorem ChgG.trans' {g : Nat} {a b c : World} {z : Nat} (h : ChgG g a b) (k : Chg (fun t => t = z) b c) (hz : a.heap.size ≤ z) : ChgG g a c := Chg.trans h k (fun _ _ h => h) (fun i hi e => by omega)
theorem InsB.chgT {b z : Nat} {W W' : World} (h : InsB W b) (c : Chg (fun t => t = z) W W') (hz : ¬ b = z) : InsB W' b := by
  obtain ⟨i, h⟩ := h
  exact ⟨i, h.chg c hz⟩
theorem InsB.al {b : Nat} {W : World} (h : InsB W b) (o : Obj) : InsB (W.alloc o) b := by
  obtain ⟨i, h⟩ := h
  exact ⟨i, h.alloc _⟩
theorem StD.below {W : World} {B n c t : Nat} {a : Option Addr} (h : StD W B a n c) (ht : a = some ⟨t, 0, none⟩) : t < W.heap.size := by
  obtain ⟨_, _, ⟨_, h3⟩ | ⟨t', h3, _, h5⟩⟩ := h
  · rw [h3] at ht; cases ht
  · rw [h3] at ht; cases ht; exact h5.lt
theorem InsB.new (W : World) (op d a b rel lo hi to_ : Int) : InsB (W.alloc (.cells #[.int .i64 op, .int .i64 d, .int .i64 a, .int .i64 b, .int .i64 rel, .int .i64 lo, .int .i64 hi, .int .i64 to_] 28)) W.heap.size := ⟨⟨op, d, a, b, rel, lo, hi, to_⟩, Blk.new _ _ _⟩
set_option maxHeartbeats 4000000 in
theorem InsB.set8 {W : World} {t : Nat} (h : InsB W t) (op d a b rel lo hi to_ : Int) : InsB ((((((((W.setCell ⟨t, 0, none⟩ (.int .i64 op)).setCell ⟨t, 1, none⟩ (.int .i64 d)).setCell ⟨t, 2, none⟩ (.int .i64 a)).setCell ⟨t, 3, none⟩ (.int .i64 b)).setCell ⟨t, 4, none⟩ (.int .i64 rel)).setCell ⟨t, 5, none⟩ (.int .i64 lo)).setCell ⟨t, 6, none⟩ (.int .i64 hi)).setCell ⟨t, 7, none⟩ (.int .i64 to_)) t := by
  obtain ⟨⟨x0, x1, x2, x3, x4, x5, x6, x7⟩, h⟩ := h
  have h : Blk W t 28 #[.int .i64 x0, .int .i64 x1, .int .i64 x2, .int .i64 x3, .int .i64 x4, .int .i64 x5, .int .i64 x6, .int .i64 x7] := h
  refine ⟨⟨op, d, a, b, rel, lo, hi, to_⟩, ?_⟩
  show Blk _ t 28 #[.int .i64 op, .int .i64 d, .int .i64 a, .int .i64 b, .int .i64 rel, .int .i64 lo, .int .i64 hi, .int .i64 to_]
  exact (((((((h.set_ 0 _).set_ 1 _).set_ 2 _).set_ 3 _).set_ 4 _).set_ 5 _).set_ 6 _).set_ 7 _
set_option maxRecDepth 100000 in
set_option maxHeartbeats 16000000 in
theorem drawAbsFails (a : Option Addr) (n cap : Nat) (zs : List Int) (w : World) (hr : Rd w a n 1 (ints .u8 zs)) (hz : Bs zs) (hc : n ≤ cap ∧ cap ≤ maxLen) :
    Calls Tryz.prog 38 #[.slice a n cap] w (RetAF w) := by
  have HR0 := Lib.hid (hr.grew (grew_al (grew_al (grew_al (Below.refl _ w) (.cells Zq 25)) (.cells Zi8 28)) (.cells Zs 33))); clear hr
  have HZ := Lib.hid hz; clear hz
  go_enter Tryz.func38, Tryz.ntmps38
  go_wp2_with fail
  refine (l20Open _ _ _ _ _ HR0.out HZ.out hc).mono ?_
  rintro e w1 ⟨rfl, h1, h2⟩
  have hZ0 : Blk w1 w.heap.size 25 Zq := (((Blk.new w _ _).alloc _).alloc _).grew h2
  have hZ1 : Blk w1 (w.heap.size + 1) 28 Zi8 := by have := ((Blk.new (w.alloc (.cells Zq 25)) 28 Zi8).alloc (.cells Zs 33)).grew h2; simpa only [World.size_alloc] using this
  have hZ2 : Blk w1 (w.heap.size + 1 + 1) 33 Zs := by have := (Blk.new ((w.alloc (.cells Zq 25)).alloc (.cells Zi8 28)) 33 Zs).grew h2; simpa only [World.size_alloc] using this
  have G1 : Grew w w1 := grew_tr (grew_al (grew_al (grew_al (Below.refl _ w) _) _) _) h2
  obtain ⟨g, hg⟩ : ∃ g, w.heap.size + 1 + 1 + 1 = g := ⟨_, rfl⟩
  simp only [World.size_alloc, hg] at h1 ⊢
  have hgw : w.heap.size + 2 < g := by omega
  have lg := h1.lt
  have H1 := Lib.hid h1
  clear h1 h2 hg HR0 HZ
  go_wp2_with fail
  refine Calls.mono (progOrG (q := 30) H1.out (by omega) (by omega)) ?_
  rintro e w2 ⟨v, m, ms, rfl, ho, hm5, hml, hr2, hc2⟩
  obtain ⟨pa, pc, rfl⟩ := owns_slice ho.2.1
  obtain ⟨B, hB⟩ : ∃ B, w1.heap.size = B := ⟨_, rfl⟩
  obtain ⟨b6, hb6⟩ : ∃ b, w2.heap.size = b := ⟨_, rfl⟩
  have hgB : g < B := by omega
  have hB6 : B ≤ b6 := by have := hc2.size; omega
  have n6 : ¬ b6 = g := by omega
  have HML := Lib.hid hml
  go_upto_region 3 with fail
  try simp only [hb6]
  refine wp_let_c ?_
  intro E hE
  have hEs : E.heap.size = b6 + 1 := by rw [hE, ← hb6]; simp
  have hcE : ChgG g w1 E := by rw [hE]; exact chg_al hc2 _
  have Z0 := Lib.hid (hZ0.chg hcE (by omega))
  have Z1 := Lib.hid (hZ1.chg hcE (by omega))
  have Z2 := Lib.hid (hZ2.chg hcE (by omega))
  have GE := Lib.hid (show Grew w E from G1.trans (hcE.belowB G1.size (fun k hk => by omega)))
  have OE : Hid (OwnP E B (.slice pa m pc) m ms) := Lib.hid (by rw [hE, ← hB]; exact ho.grew (grew_al (Below.refl _ _) _))
  have BE : Hid (Blk E b6 25 #[.slice pa m pc]) := Lib.hid (by rw [hE, ← hb6]; exact Blk.new _ _ _)
  have HR : Hid (RdLe E g 1720) := Lib.hid (by rw [hE]; exact (rd_al hr2 _).mono (by omega))
  have c0 : E.cell? ⟨b6, 0, none⟩ = some (.slice pa m pc) := BE.out.cell 0
  have HES := Lib.hid hEs
  have hlE : b6 < E.heap.size := by omega
  have hwE : w.heap.size + 2 < E.heap.size := by omega
  clear hE hb6 hB hcE hZ0 hZ1 hZ2 G1 ho hr2 hc2 H1 hml hEs
  go_cut [7] (fun s7 W => ∃ b7, s7 = .pointer (some ⟨b7, 0, none⟩) ∧ E.heap.size ≤ b7 ∧ ChgG g E W ∧ InsB W b7 ∧ RdLe W g 1760)
  case first =>
    go_wp2_with fail
    all_goals
      refine Calls.mono (insG HR.out (by omega) (by omega) (by omega)) ?_
      rintro e w3 ⟨v, rfl, ⟨op, d, ia, ib, rel, lo, hi, tt, rfl⟩, hr3, hc3⟩
      go_wp2_with fail
      go_meet
      case rel => exact ⟨w3.heap.size, rfl, hc3.size, chg_al hc3 _, InsB.new _ _ _ _ _ _ _ _ _, (rd_al hr3 _).mono (by omega)⟩
  case rest =>
    clear c0 HR
    obtain ⟨b7, rfl, hb7, hC, hI, hR⟩ := hcut
    have HC := Lib.hid hC
    have HI := Lib.hid hI
    have HR := Lib.hid hR
    clear hC hI hR
    go_wp2_with fail
    refine Calls.mono (pickG (k := 2) HR.out (by omega) (by omega)) ?_
    rintro e w4 ⟨v, rfl, ⟨j, rfl, hj⟩, hr, hc⟩
    have HC := Lib.hid (HC.out.trans hc)
    have HI := Lib.hid (HI.out.cg hc (by omega))
    have HR := Lib.hid hr
    clear hr hc hj
    go_upto_if 21 with fail
    go_cut [] (fun W => ChgG g E W ∧ InsB W b7 ∧ RdLe W g 1780)
    case first =>
      by_cases hj0 : j = 0
      · subst hj0
        go_upto_region 5 with fail
        have hPP : 1761 + 9 ≤ 1099511627776 := by omega
        have hJC : ∀ W W', (ChgG g E W ∧ InsB W b7) → ChgG g W W' → (ChgG g E W' ∧ InsB W' b7) := fun W W' h c => ⟨h.1.trans c, h.2.cg c (by omega)⟩
        have hJA : ∀ W o, (ChgG g E W ∧ InsB W b7) → (ChgG g E (W.alloc o) ∧ InsB (W.alloc o) b7) := fun W o h => ⟨chg_al h.1 o, h.2.al o⟩
        have hFl : ∀ W, (ChgG g E W ∧ InsB W b7) → ∀ b, (b = g ∨ b = b7) → b < W.heap.size := fun W h b hb => by
          have h1 := h.1.size
          obtain ⟨i, hi⟩ := h.2
          have := hi.lt
          rcases hb with rfl | rfl <;> omega
        refine region_seqL g 1761 9 87 [0, 1, 0, 1, 0, 0, 1, 0, 0, 1, 0, 0, 1, 0, 1, 0, 1, 0, 0, 0, 1, 0, 0, 0, 1, 0, 0, 0] (fun W => ChgG g E W ∧ InsB W b7) (fun b => b = g ∨ b = b7)
          [prV (fun v => v = .pointer (some ⟨g, 0, none⟩)), prV (IsNat 4), prV (fun v => v = .pointer (some ⟨g, 0, none⟩)), prV (IsNat 4), prV IsIns, prV (fun v => v = .pointer (some ⟨g, 0, none⟩)), prV (IsNat 4), prV IsIns, prV (fun v => v = .pointer (some ⟨g, 0, none⟩)), prV (IsNat 4), prV IsIns, prV (fun v => v = .pointer (some ⟨g, 0, none⟩)), prV (IsNat 4), prV (fun v => v = .pointer (some ⟨g, 0, none⟩)), prV (IsNat 4), prV (fun v => v = .pointer (some ⟨g, 0, none⟩)), prV (IsNat 4), prV IsInt, prV IsIns, prV (fun v => v = .pointer (some ⟨g, 0, none⟩)), prV (IsNat 4), prV IsIns, prSlK 5 8, prV (fun v => v = .pointer (some ⟨g, 0, none⟩)), prV (IsNat 5), prPtK 8, prV IsIns, prT]
          rfl (by kernel_rfl) (by kernel_rfl) ⟨HC.out, HI.out⟩ HR.out ⟨?_, ?_, ?_, ?_, ?_, ?_, ?_, ?_, ?_, ?_, ?_, ?_, ?_, ?_, ?_, ?_, ?_, ?_, ?_, ?_, ?_, ?_, ?_, ?_, ?_, ?_, ?_, ?_, trivial⟩ ?_
        · exact ds_move 5 _ rfl (by kernel_rfl) rfl (fun _ => rfl)
        · exact ds_pick 22 0 4 (fun _ _ => by kernel_rfl) ⟨⟨⟨0, .data⟩, by simp, rfl, by kernel_rfl⟩, by kernel_rfl⟩ (fun _ _ h => h) rfl hPP (by omega) (fun _ _ h => h) hJC (.inl rfl)
        · exact ds_move 5 _ rfl (by kernel_rfl) rfl (fun _ => rfl)
        · exact ds_pick 24 2 4 (fun _ _ => by kernel_rfl) ⟨⟨⟨2, .data⟩, by simp, rfl, by kernel_rfl⟩, by kernel_rfl⟩ (fun _ _ h => h) rfl hPP (by omega) (fun _ _ h => h) hJC (.inl rfl)
        · exact ds_build _ _ rfl (fun A W hf hd => by
            obtain ⟨n2, h2⟩ := (isInt_of_nat (dep_of (k := 1) (d := 23) ⟨⟨⟨1, .data⟩, by simp, rfl, by kernel_rfl⟩, by kernel_rfl⟩ hd : IsNat _ _) : IsInt _)
            obtain ⟨n3, h3⟩ := (isInt_of_nat (dep_of (k := 3) (d := 25) ⟨⟨⟨3, .data⟩, by simp, rfl, by kernel_rfl⟩, by kernel_rfl⟩ hd : IsNat _ _) : IsInt _)
            exact ⟨#[(0, .int .i64 4), (2, .int .i64 n2), (3, .int .i64 n3)], by simp [eval_const, h2, h3], .agg #[.int .i64 4, .int .i64 0, .int .i64 n2, .int .i64 n3, .int .i64 0, .int .i64 0, .int .i64 0, .int .i64 0], fun W => by kernel_rfl, 4, 0, n2, n3, 0, 0, 0, 0, rfl⟩)
        · exact ds_move 5 _ rfl (by kernel_rfl) rfl (fun _ => rfl)
        · exact ds_pick 27 5 4 (fun _ _ => by kernel_rfl) ⟨⟨⟨5, .data⟩, by simp, rfl, by kernel_rfl⟩, by kernel_rfl⟩ (fun _ _ h => h) rfl hPP (by omega) (fun _ _ h => h) hJC (.inl rfl)
        · exact ds_build _ _ rfl (fun A W hf hd => by
            obtain ⟨n2, h2⟩ := (isInt_of_nat (dep_of (k := 6) (d := 28) ⟨⟨⟨6, .data⟩, by simp, rfl, by kernel_rfl⟩, by kernel_rfl⟩ hd : IsNat _ _) : IsInt _)
            exact ⟨#[(0, .int .i64 6), (2, .int .i64 n2)], by simp [eval_const, h2], .agg #[.int .i64 6, .int .i64 0, .int .i64 n2, .int .i64 0, .int .i64 0, .int .i64 0, .int .i64 0, .int .i64 0], fun W => by kernel_rfl, 6, 0, n2, 0, 0, 0, 0, 0, rfl⟩)
        · exact ds_move 5 _ rfl (by kernel_rfl) rfl (fun _ => rfl)
        · exact ds_pick 30 8 4 (fun _ _ => by kernel_rfl) ⟨⟨⟨8, .data⟩, by simp, rfl, by kernel_rfl⟩, by kernel_rfl⟩ (fun _ _ h => h) rfl hPP (by omega) (fun _ _ h => h) hJC (.inl rfl)
        · exact ds_build _ _ rfl (fun A W hf hd => by
            obtain ⟨n2, h2⟩ := (isInt_of_nat (dep_of (k := 9) (d := 31) ⟨⟨⟨9, .data⟩, by simp, rfl, by kernel_rfl⟩, by kernel_rfl⟩ hd : IsNat _ _) : IsInt _)
            exact ⟨#[(0, .int .i64 7), (2, .int .i64 n2)], by simp [eval_const, h2], .agg #[.int .i64 7, .int .i64 0, .int .i64 n2, .int .i64 0, .int .i64 0, .int .i64 0, .int .i64 0, .int .i64 0], fun W => by kernel_rfl, 7, 0, n2, 0, 0, 0, 0, 0, rfl⟩)
        · exact ds_move 5 _ rfl (by kernel_rfl) rfl (fun _ => rfl)
        · exact ds_pick 33 11 4 (fun _ _ => by kernel_rfl) ⟨⟨⟨11, .data⟩, by simp, rfl, by kernel_rfl⟩, by kernel_rfl⟩ (fun _ _ h => h) rfl hPP (by omega) (fun _ _ h => h) hJC (.inl rfl)
        · exact ds_move 5 _ rfl (by kernel_rfl) rfl (fun _ => rfl)
        · exact ds_pick 35 13 4 (fun _ _ => by kernel_rfl) ⟨⟨⟨13, .data⟩, by simp, rfl, by kernel_rfl⟩, by kernel_rfl⟩ (fun _ _ h => h) rfl hPP (by omega) (fun _ _ h => h) hJC (.inl rfl)
        · exact ds_move 5 _ rfl (by kernel_rfl) rfl (fun _ => rfl)
        · exact ds_pick 37 15 4 (fun _ _ => by kernel_rfl) ⟨⟨⟨15, .data⟩, by simp, rfl, by kernel_rfl⟩, by kernel_rfl⟩ (fun _ _ h => h) rfl hPP (by omega) (fun _ _ h => h) hJC (.inl rfl)
        · exact ds_add 38 16 1 rfl ⟨⟨⟨16, .data⟩, by simp, rfl, by kernel_rfl⟩, by kernel_rfl⟩ (fun _ _ h => isInt_of_nat h) (fun _ _ h => h)
        · exact ds_build _ _ rfl (fun A W hf hd => by
            obtain ⟨n2, h2⟩ := (isInt_of_nat (dep_of (k := 12) (d := 34) ⟨⟨⟨12, .data⟩, by simp, rfl, by kernel_rfl⟩, by kernel_rfl⟩ hd : IsNat _ _) : IsInt _)
            obtain ⟨n3, h3⟩ := (isInt_of_nat (dep_of (k := 14) (d := 36) ⟨⟨⟨14, .data⟩, by simp, rfl, by kernel_rfl⟩, by kernel_rfl⟩ hd : IsNat _ _) : IsInt _)
            obtain ⟨n4, h4⟩ := (dep_of (k := 17) (d := 39) ⟨⟨⟨17, .data⟩, by simp, rfl, by kernel_rfl⟩, by kernel_rfl⟩ hd : IsInt _)
            exact ⟨#[(0, .int .i64 11), (2, .int .i64 n2), (3, .int .i64 n3), (4, .int .i64 n4)], by simp [eval_const, h2, h3, h4], .agg #[.int .i64 11, .int .i64 0, .int .i64 n2, .int .i64 n3, .int .i64 n4, .int .i64 0, .int .i64 0, .int .i64 0], fun W => by kernel_rfl, 11, 0, n2, n3, n4, 0, 0, 0, rfl⟩)
        · exact ds_move 5 _ rfl (by kernel_rfl) rfl (fun _ => rfl)
        · exact ds_pick 41 19 4 (fun _ _ => by kernel_rfl) ⟨⟨⟨19, .data⟩, by simp, rfl, by kernel_rfl⟩, by kernel_rfl⟩ (fun _ _ h => h) rfl hPP (by omega) (fun _ _ h => h) hJC (.inl rfl)
        · exact ds_build _ _ rfl (fun A W hf hd => by
            obtain ⟨n2, h2⟩ := (isInt_of_nat (dep_of (k := 20) (d := 42) ⟨⟨⟨20, .data⟩, by simp, rfl, by kernel_rfl⟩, by kernel_rfl⟩ hd : IsNat _ _) : IsInt _)
            exact ⟨#[(0, .int .i64 10), (2, .int .i64 n2)], by simp [eval_const, h2], .agg #[.int .i64 10, .int .i64 0, .int .i64 n2, .int .i64 0, .int .i64 0, .int .i64 0, .int .i64 0, .int .i64 0], fun W => by kernel_rfl, 10, 0, n2, 0, 0, 0, 0, 0, rfl⟩)
        · exact ds_litK 28 _ 5 8 _ rfl (fun A W hf hd => by
            obtain ⟨x0_0, x0_1, x0_2, x0_3, x0_4, x0_5, x0_6, x0_7, e0⟩ := (dep_of (k := 4) (d := 26) ⟨⟨⟨4, .data⟩, by simp, rfl, by kernel_rfl⟩, by kernel_rfl⟩ hd : IsIns _)
            obtain ⟨x1_0, x1_1, x1_2, x1_3, x1_4, x1_5, x1_6, x1_7, e1⟩ := (dep_of (k := 7) (d := 29) ⟨⟨⟨7, .data⟩, by simp, rfl, by kernel_rfl⟩, by kernel_rfl⟩ hd : IsIns _)
            obtain ⟨x2_0, x2_1, x2_2, x2_3, x2_4, x2_5, x2_6, x2_7, e2⟩ := (dep_of (k := 10) (d := 32) ⟨⟨⟨10, .data⟩, by simp, rfl, by kernel_rfl⟩, by kernel_rfl⟩ hd : IsIns _)
            obtain ⟨x3_0, x3_1, x3_2, x3_3, x3_4, x3_5, x3_6, x3_7, e3⟩ := (dep_of (k := 18) (d := 40) ⟨⟨⟨18, .data⟩, by simp, rfl, by kernel_rfl⟩, by kernel_rfl⟩ hd : IsIns _)
            obtain ⟨x4_0, x4_1, x4_2, x4_3, x4_4, x4_5, x4_6, x4_7, e4⟩ := (dep_of (k := 21) (d := 43) ⟨⟨⟨21, .data⟩, by simp, rfl, by kernel_rfl⟩, by kernel_rfl⟩ hd : IsIns _)
            exact ⟨#[(0, .agg #[.int .i64 x0_0, .int .i64 x0_1, .int .i64 x0_2, .int .i64 x0_3, .int .i64 x0_4, .int .i64 x0_5, .int .i64 x0_6, .int .i64 x0_7]), (1, .agg #[.int .i64 x1_0, .int .i64 x1_1, .int .i64 x1_2, .int .i64 x1_3, .int .i64 x1_4, .int .i64 x1_5, .int .i64 x1_6, .int .i64 x1_7]), (2, .agg #[.int .i64 x2_0, .int .i64 x2_1, .int .i64 x2_2, .int .i64 x2_3, .int .i64 x2_4, .int .i64 x2_5, .int .i64 x2_6, .int .i64 x2_7]), (3, .agg #[.int .i64 x3_0, .int .i64 x3_1, .int .i64 x3_2, .int .i64 x3_3, .int .i64 x3_4, .int .i64 x3_5, .int .i64 x3_6, .int .i64 x3_7]), (4, .agg #[.int .i64 x4_0, .int .i64 x4_1, .int .i64 x4_2, .int .i64 x4_3, .int .i64 x4_4, .int .i64 x4_5, .int .i64 x4_6, .int .i64 x4_7])], by simp [e0, e1, e2, e3, e4], [x0_0, x0_1, x0_2, x0_3, x0_4, x0_5, x0_6, x0_7, x1_0, x1_1, x1_2, x1_3, x1_4, x1_5, x1_6, x1_7, x2_0, x2_1, x2_2, x2_3, x2_4, x2_5, x2_6, x2_7, x3_0, x3_1, x3_2, x3_3, x3_4, x3_5, x3_6, x3_7, x4_0, x4_1, x4_2, x4_3, x4_4, x4_5, x4_6, x4_7], rfl, fun W => by kernel_rfl⟩) (fun _ _ h => h) hJA hFl
        · exact ds_move 5 _ rfl (by kernel_rfl) rfl (fun _ => rfl)
        · exact ds_pick 45 23 5 (fun _ _ => by kernel_rfl) ⟨⟨⟨23, .data⟩, by simp, rfl, by kernel_rfl⟩, by kernel_rfl⟩ (fun _ _ h => h) rfl hPP (by omega) (fun _ _ h => h) hJC (.inl rfl)
        · exact ds_ixN 44 46 22 24 5 rfl ⟨⟨⟨22, .data⟩, by simp, rfl, by kernel_rfl⟩, by kernel_rfl⟩ ⟨⟨⟨24, .data⟩, by simp, rfl, by kernel_rfl⟩, by kernel_rfl⟩ (fun _ _ h => h) (fun _ _ h => h) (by omega) (by omega) (fun _ _ h => h)
        · exact ds_ldN 47 25 rfl ⟨⟨⟨25, .data⟩, by simp, rfl, by kernel_rfl⟩, by kernel_rfl⟩ (fun _ _ h => h) (fun _ _ h => h)
        · exact ds_store8 b7 7 48 26 rfl (by kernel_rfl) rfl ⟨⟨⟨26, .data⟩, by simp, rfl, by kernel_rfl⟩, by kernel_rfl⟩ (fun _ _ h => h) (fun W h => by obtain ⟨⟨x0, x1, x2, x3, x4, x5, x6, x7⟩, hb⟩ := h.2; exact ⟨x0, x1, x2, x3, x4, x5, x6, x7, hb⟩) (fun W W' y0 y1 y2 y3 y4 y5 y6 y7 h hb hc => ⟨h.1.trans' hc hb7, ⟨y0, y1, y2, y3, y4, y5, y6, y7⟩, hb⟩) (by omega) (.inr rfl) (fun _ _ => trivial)
        · rintro vs w5 hJ5 hr5 hR
          have HJ5 := Lib.hid hJ5
          have HR5 := Lib.hid hr5
          clear hR hJ5 hr5 hPP hJC hJA hFl HC HI HR
          simp only [putAll, Act.put, List.setIfInBounds_toArray, List.set_cons_zero, List.set_cons_succ]
          go_wp2_with fail
          go_meet
          case rel => exact ⟨HJ5.out.1, HJ5.out.2, HR5.out.mono (by omega)⟩
      · have hj1 : ¬ (j : Int) = 0 := by omega
        go_wp2_with fail
        go_meet
        case rel => exact ⟨HC.out, HI.out, HR.out.mono (by omega)⟩
    case rest =>
      clear HC HI HR
      obtain ⟨hC, hI, hR⟩ := hcut
      have HC := Lib.hid hC
      have HI := Lib.hid hI
      have HR := Lib.hid hR
      clear hC hI hR
      go_wp2_with fail
      refine Calls.mono (oddG (k := 20) HR.out (by omega) (by omega)) ?_
      rintro e w5 ⟨v, rfl, ⟨o, rfl⟩, hr, hc⟩
      have HC := Lib.hid (HC.out.trans hc)
      have HI := Lib.hid (HI.out.cg hc (by omega))
      have HR := Lib.hid hr
      clear hr hc
      go_upto_if 50 with fail
      go_cut [] (fun W => ChgG g E W ∧ InsB W b7 ∧ RdLe W g 1800)
      case first =>
        cases o
        · go_wp2_with fail
          go_meet
          case rel => exact ⟨HC.out, HI.out, HR.out.mono (by omega)⟩
        · obtain ⟨i7, hI7⟩ := HI.out
          have HI7 := Lib.hid hI7
          have hc7 := fun j => hI7.cell j
          have hl7 := hI7.lt
          have hf7 := fun j => hI7.frozen j
          obtain ⟨o0, o1, o2, o3, o4, o5, o6, o7⟩ := i7
          have t0 : w5.cell? ⟨b7, 0, none⟩ = some (.int .i64 o0) := hc7 0
          have t1 : w5.cell? ⟨b7, 1, none⟩ = some (.int .i64 o1) := hc7 1
          have t2 : w5.cell? ⟨b7, 2, none⟩ = some (.int .i64 o2) := hc7 2
          have t3 : w5.cell? ⟨b7, 3, none⟩ = some (.int .i64 o3) := hc7 3
          have t4 : w5.cell? ⟨b7, 4, none⟩ = some (.int .i64 o4) := hc7 4
          have t5 : w5.cell? ⟨b7, 5, none⟩ = some (.int .i64 o5) := hc7 5
          have t6 : w5.cell? ⟨b7, 6, none⟩ = some (.int .i64 o6) := hc7 6
          have t7 : w5.cell? ⟨b7, 7, none⟩ = some (.int .i64 o7) := hc7 7
          clear hI7 hc7
          go_wp2_with fail
          refine Calls.mono (spoilG HR.out ⟨o0, o1, o2, o3, o4, o5, o6, o7, rfl⟩ (by omega)) ?_
          rintro e w6 ⟨v, rfl, ⟨p0, p1, p2, p3, p4, p5, p6, p7, rfl⟩, hr, hc⟩
          have HC := Lib.hid (HC.out.trans hc)
          have HI := Lib.hid (HI.out.cg hc (by omega))
          have HR := Lib.hid hr
          clear hr hc HI7 hl7 hf7 t0 t1 t2 t3 t4 t5 t6 t7
          obtain ⟨i7, hI7⟩ := HI.out
          have HI7 := Lib.hid hI7
          have hc7 := fun j => hI7.cell j
          have hl7 := hI7.lt
          have hf7 := fun j => hI7.frozen j
          obtain ⟨o0, o1, o2, o3, o4, o5, o6, o7⟩ := i7
          have t0 : w6.cell? ⟨b7, 0, none⟩ = some (.int .i64 o0) := hc7 0
          have t1 : w6.cell? ⟨b7, 1, none⟩ = some (.int .i64 o1) := hc7 1
          have t2 : w6.cell? ⟨b7, 2, none⟩ = some (.int .i64 o2) := hc7 2
          have t3 : w6.cell? ⟨b7, 3, none⟩ = some (.int .i64 o3) := hc7 3
          have t4 : w6.cell? ⟨b7, 4, none⟩ = some (.int .i64 o4) := hc7 4
          have t5 : w6.cell? ⟨b7, 5, none⟩ = some (.int .i64 o5) := hc7 5
          have t6 : w6.cell? ⟨b7, 6, none⟩ = some (.int .i64 o6) := hc7 6
          have t7 : w6.cell? ⟨b7, 7, none⟩ = some (.int .i64 o7) := hc7 7
          clear hI7 hc7
          go_wp2_with fail
          go_meet
          case rel => exact ⟨chg_set (chg_set (chg_set (chg_set (chg_set (chg_set (chg_set (chg_set HC.out hb7 _) hb7 _) hb7 _) hb7 _) hb7 _) hb7 _) hb7 _) hb7 _, InsB.set8 ⟨_, HI7.out⟩ _ _ _ _ _ _ _ _, (rd_set (rd_set (rd_set (rd_set (rd_set (rd_set (rd_set (rd_set HR.out (by simp only; omega) _) (by simp only; omega) _) (by simp only; omega) _) (by simp only; omega) _) (by simp only; omega) _) (by simp only; omega) _) (by simp only; omega) _) (by simp only; omega) _).mono (by omega)⟩
      case rest =>
        clear HC HI HR
        obtain ⟨hC, hI, hR⟩ := hcut
        have HC := Lib.hid hC
        have HI := Lib.hid hI
        have HR := Lib.hid hR
        clear hC hI hR
        go_wp2_with fail
        refine Calls.mono (stateG (n := 20) HR.out (by omega) (by omega)) ?_
        rintro e w7 ⟨on, sa, sn, sc, lo, hi, rfl, hst, hr, hc⟩
        obtain ⟨b8, hb8⟩ : ∃ b, w7.heap.size = b := ⟨_, rfl⟩
        obtain ⟨S0, hS0⟩ : ∃ s, wc.heap.size = s := ⟨_, rfl⟩
        have h7S : b7 < S0 := by obtain ⟨i7, hI7⟩ := HI.out; have := hI7.lt; omega
        have hES : E.heap.size ≤ S0 := by have := HC.out.size; omega
        have h78 : b7 < b8 := by have := (HI.out.cg hc (by omega)); obtain ⟨i7, hI7⟩ := this; have := hI7.lt; omega
        have hE8 : E.heap.size ≤ b8 := by omega
        have n8 : ¬ b8 = g := by omega
        have nb : ¬ b7 = b8 := by omega
        go_upto_region 9 with fail
        try simp only [hb8]
        refine wp_let_c ?_
        intro E2 hE2
        have HS : Hid (StD E2 S0 sa sn sc ∧ ∀ t, sa = some ⟨t, 0, none⟩ → t < b8) := Lib.hid (by
          rw [hE2, ← hb8]
          exact ⟨(hst.mono (by omega)).grew (grew_al (Below.refl _ _) _), fun t ht => hst.below ht⟩)
        have HB : Hid (Blk E2 b8 33 #[.bool on, .slice sa sn sc, .int .i64 lo, .int .i64 hi]) := Lib.hid (by rw [hE2, ← hb8]; exact Blk.new _ _ _)
        have HC := Lib.hid (show ChgG g E E2 from by rw [hE2]; exact chg_al (HC.out.trans hc) _)
        have HI := Lib.hid (show InsB E2 b7 from by rw [hE2]; exact (HI.out.cg hc (by omega)).al _)
        have HR := Lib.hid (show RdLe E2 g 2010 from by rw [hE2]; exact (rd_al hr _).mono (by omega))
        clear hE2 hr hc hst hb8
        obtain ⟨xs, hxl, hxr⟩ := HS.out.1.rd2
        have HOK := Lib.hid (specAbsOk on sa sn sc xs lo hi E2 (rdl_itv hxr hxl) (by have := HS.out.1.2.1; omega))
        obtain ⟨OK, hOK⟩ : ∃ B, stOkB on xs lo hi = B := ⟨_, rfl⟩
        have HBO := Lib.hid hOK
        have HXL := Lib.hid hxl
        rw [hOK] at HOK
        clear hOK hxl hxr
        go_cut [66] (fun s66 W => ∃ b : Bool, s66 = .bool b ∧ (b = true → OK = true ∧ on = true) ∧ ChgG g E2 W ∧ RdLe W g 2011)
        case first =>
          have d0 : E2.cell? ⟨b8, 0, none⟩ = some (.bool on) := HB.out.cell 0
          have d1 : E2.cell? ⟨b8, 1, none⟩ = some (.slice sa sn sc) := HB.out.cell 1
          have d2 : E2.cell? ⟨b8, 2, none⟩ = some (.int .i64 lo) := HB.out.cell 2
          have d3 : E2.cell? ⟨b8, 3, none⟩ = some (.int .i64 hi) := HB.out.cell 3
          have d4 := HB.out.lt
          cases OK
          · go_wp2_with (refine HOK.out.mono ?_; rintro e w8 ⟨rfl, g8⟩)
            go_meet
            case rel => exact ⟨false, rfl, (fun h => by cases h), ChgG.of_grew g8, (HR.out.grew g8).mono (by omega)⟩
          · cases on
            · go_wp2_with (refine HOK.out.mono ?_; rintro e w8 ⟨rfl, g8⟩; have e0 : w8.cell? ⟨b8, 0, none⟩ = some (.bool false) := (g8.cell (p := ⟨b8, 0, none⟩) d4).trans d0)
              go_meet
              case rel => exact ⟨false, rfl, (fun h => by cases h), ChgG.of_grew g8, (HR.out.grew g8).mono (by omega)⟩
            · go_wp2_with fail
              refine HOK.out.mono ?_
              rintro e w8 ⟨rfl, g8⟩
              have e0 : w8.cell? ⟨b8, 0, none⟩ = some (.bool true) := (g8.cell (p := ⟨b8, 0, none⟩) d4).trans d0
              go_wp2_with fail
              refine Calls.mono (pickG (k := 3) (HR.out.grew g8) (by omega) (by omega)) ?_
              rintro e w9 ⟨v, rfl, ⟨j, rfl, hj⟩, hr, hc⟩
              go_wp2_with fail
              go_meet
              case rel => exact ⟨_, rfl, (fun _ => by first | exact ⟨rfl, rfl⟩ | simp), (ChgG.of_grew g8).trans hc, hr.mono (by omega)⟩
        case rest =>
          obtain ⟨b, rfl, hb, hC, hR⟩ := hcut
          have HS := Lib.hid (show StD _ S0 sa sn sc ∧ ∀ t, sa = some ⟨t, 0, none⟩ → t < b8 from ⟨HS.out.1.chgG hC (by omega), HS.out.2⟩)
          have HB := Lib.hid (HB.out.chg hC n8)
          have HI := Lib.hid (HI.out.cg hC (by omega))
          have HC := Lib.hid (HC.out.trans hC)
          have HR := Lib.hid hR
          clear hC hR HOK
          go_upto_if 66 with fail
          go_cut [] (fun W => ChgG g E W ∧ InsB W b7 ∧ Blk W b8 33 #[.bool on, .slice sa sn sc, .int .i64 lo, .int .i64 hi] ∧ StD W S0 sa sn sc)
          case first =>
            cases b
            · go_wp2_with fail
              go_meet
              case rel => exact ⟨HC.out, HI.out, HB.out, HS.out.1⟩
            obtain ⟨hok, rfl⟩ := hb rfl
            rw [hok] at HBO
            obtain ⟨tb, htb, hst8⟩ : ∃ tb, sa = some ⟨tb, 0, none⟩ ∧ sn = 4 ∧ S0 ≤ tb ∧ RowB tb wc := by
              obtain ⟨_, _, ⟨h1, h2⟩ | ⟨t', h3, h4, h5⟩⟩ := HS.out.1
              · have : xs.length = 4 := by obtain ⟨_, x0, x1, x2, x3, e, _⟩ := st_four HBO.out; exact congrArg List.length e
                have := HXL.out
                omega
              · have : xs.length = 4 := by obtain ⟨_, x0, x1, x2, x3, e, _⟩ := st_four HBO.out; exact congrArg List.length e
                have := HXL.out
                exact ⟨t', h3, by omega, h4, h5⟩
            obtain ⟨hsn, htE, hrow⟩ := hst8
            subst hsn htb
            have ht8 : tb < b8 := HS.out.2 tb rfl
            have htc : 4 ≤ sc := HS.out.1.1
            have HRW := Lib.hid hrow
            clear hrow
            go_upto_region 10 with fail
            have hPP : 2011 + 1 ≤ 1099511627776 := by omega
            obtain ⟨J, hJd⟩ : ∃ J : World → Prop, J = fun W => ChgG g E W ∧ InsB W b7 ∧ Blk W b8 33 #[.bool true, .slice (some ⟨tb, 0, none⟩) 4 sc, .int .i64 lo, .int .i64 hi] ∧ RowB tb W := ⟨_, rfl⟩
            have hJC : ∀ W W', (ChgG g E W ∧ InsB W b7 ∧ Blk W b8 33 #[.bool true, .slice (some ⟨tb, 0, none⟩) 4 sc, .int .i64 lo, .int .i64 hi] ∧ RowB tb W) → ChgG g W W' → (ChgG g E W' ∧ InsB W' b7 ∧ Blk W' b8 33 #[.bool true, .slice (some ⟨tb, 0, none⟩) 4 sc, .int .i64 lo, .int .i64 hi] ∧ RowB tb W') := fun W W' h c => ⟨h.1.trans c, h.2.1.cg c (by omega), h.2.2.1.chg c n8, h.2.2.2.chg c (by omega)⟩
            have hJA : ∀ W o, (ChgG g E W ∧ InsB W b7 ∧ Blk W b8 33 #[.bool true, .slice (some ⟨tb, 0, none⟩) 4 sc, .int .i64 lo, .int .i64 hi] ∧ RowB tb W) → (ChgG g E (W.alloc o) ∧ InsB (W.alloc o) b7 ∧ Blk (W.alloc o) b8 33 #[.bool true, .slice (some ⟨tb, 0, none⟩) 4 sc, .int .i64 lo, .int .i64 hi] ∧ RowB tb (W.alloc o)) := fun W o h => hJC W _ h (ChgG.of_grew (grew_al (Below.refl _ _) _))
            have hFl : ∀ W, (ChgG g E W ∧ InsB W b7 ∧ Blk W b8 33 #[.bool true, .slice (some ⟨tb, 0, none⟩) 4 sc, .int .i64 lo, .int .i64 hi] ∧ RowB tb W) → ∀ b, (b = g ∨ b = tb) → b < W.heap.size := fun W h b hb => by
              have h1 := h.1.size
              have h2 := h.2.2.2.lt
              rcases hb with rfl | rfl <;> omega
            clear hJd J
            refine region_drawL g 2011 1 87 [0, 0, 0, 0, 0, 0, 0, 0, 0, 0, 0, 0, 0, 1, 0, 0, 0, 0] (fun W => ChgG g E W ∧ InsB W b7 ∧ Blk W b8 33 #[.bool true, .slice (some ⟨tb, 0, none⟩) 4 sc, .int .i64 lo, .int .i64 hi] ∧ RowB tb W) (fun b => b = g ∨ b = tb)
              [prV (fun v => v = .pointer (some ⟨b8, 1, none⟩)), prV (fun v => v = .slice (some ⟨tb, 0, none⟩) 4 sc), prV (fun v => v = .pointer (some ⟨b7, 2, none⟩)), prV IsInt, prV (IsNat 4), prV (fun v => v = .agg #[.int .i64 (0), .int .i64 (3)]), prV (fun v => v = .agg #[.int .i64 (0), .int .i64 (4)]), prV (fun v => v = .agg #[.int .i64 (-1), .int .i64 (3)]), prV (fun v => v = .agg #[.int .i64 (2), .int .i64 (2)]), prV (fun v => v = .agg #[.int .i64 (0), .int .i64 (0)]), prV (fun v => v = .agg #[.int .i64 (4), .int .i64 (9)]), prSlK 6 2, prV (fun v => v = .pointer (some ⟨g, 0, none⟩)), prV (IsNat 6), prPtK 2, prV IsItv, prV (fun v => ∃ j : Nat, j < 4 ∧ v = .pointer (some ⟨tb, j * 2, none⟩)), prT]
              (by kernel_rfl) rfl (by kernel_rfl) (by kernel_rfl) (hJC _ _ ⟨HC.out, HI.out, HB.out, HRW.out⟩ (chg_drew (ChgG.refl _ _))) HR.out ⟨?_, ?_, ?_, ?_, ?_, ?_, ?_, ?_, ?_, ?_, ?_, ?_, ?_, ?_, ?_, ?_, ?_, ?_, trivial⟩ ?_
            · exact ds_field 8 1 _ _ rfl (by kernel_rfl) rfl (fun W => by kernel_rfl) (fun _ => rfl)
            · exact ds_run (.slice (some ⟨tb, 0, none⟩) 4 sc) (fun A W hJ hf hd => by
                have e0 : A.eval (.tmp 67) = .pointer (some ⟨b8, 1, none⟩) := dep_of (k := 0) (d := 67) ⟨⟨⟨0, .data⟩, by simp, rfl, by kernel_rfl⟩, by kernel_rfl⟩ hd
                have c2 : W.cell? ⟨b8, 1, none⟩ = some (.slice (some ⟨tb, 0, none⟩) 4 sc) := hJ.2.2.1.cell 1
                simp only [execOp, e0]
                simp [go_sem, c2]) (fun _ => rfl)
            · exact ds_field 7 2 _ _ rfl (by kernel_rfl) rfl (fun W => by kernel_rfl) (fun _ => rfl)
            · exact ds_loadB 69 2 ⟨b7, 2, none⟩ rfl ⟨⟨⟨2, .data⟩, by simp, rfl, by kernel_rfl⟩, by kernel_rfl⟩ (fun _ _ h => h) (fun W h => by obtain ⟨i, hi⟩ := h.2.1; exact ⟨i.a, hi.cell 2⟩) (fun _ _ h => h)
            · exact ds_and3 70 3 rfl ⟨⟨⟨3, .data⟩, by simp, rfl, by kernel_rfl⟩, by kernel_rfl⟩ (fun _ _ h => h) (fun _ _ h => h)
            · exact ds_run (.agg #[.int .i64 (0), .int .i64 (3)]) (fun A W _ _ _ => by kernel_rfl) (fun _ => rfl)
            · exact ds_run (.agg #[.int .i64 (0), .int .i64 (4)]) (fun A W _ _ _ => by kernel_rfl) (fun _ => rfl)
            · exact ds_run (.agg #[.int .i64 (-1), .int .i64 (3)]) (fun A W _ _ _ => by kernel_rfl) (fun _ => rfl)
            · exact ds_run (.agg #[.int .i64 (2), .int .i64 (2)]) (fun A W _ _ _ => by kernel_rfl) (fun _ => rfl)
            · exact ds_run (.agg #[.int .i64 (0), .int .i64 (0)]) (fun A W _ _ _ => by kernel_rfl) (fun _ => rfl)
            · exact ds_run (.agg #[.int .i64 (4), .int .i64 (9)]) (fun A W _ _ _ => by kernel_rfl) (fun _ => rfl)
            · exact ds_litK 31 _ 6 2 _ rfl (fun A W hf hd => by
                have e0 : A.eval (.tmp 72) = .agg #[.int .i64 (0), .int .i64 (3)] := dep_of (k := 5) (d := 72) ⟨⟨⟨5, .data⟩, by simp, rfl, by kernel_rfl⟩, by kernel_rfl⟩ hd
                have e1 : A.eval (.tmp 73) = .agg #[.int .i64 (0), .int .i64 (4)] := dep_of (k := 6) (d := 73) ⟨⟨⟨6, .data⟩, by simp, rfl, by kernel_rfl⟩, by kernel_rfl⟩ hd
                have e2 : A.eval (.tmp 74) = .agg #[.int .i64 (-1), .int .i64 (3)] := dep_of (k := 7) (d := 74) ⟨⟨⟨7, .data⟩, by simp, rfl, by kernel_rfl⟩, by kernel_rfl⟩ hd
                have e3 : A.eval (.tmp 75) = .agg #[.int .i64 (2), .int .i64 (2)] := dep_of (k := 8) (d := 75) ⟨⟨⟨8, .data⟩, by simp, rfl, by kernel_rfl⟩, by kernel_rfl⟩ hd
                have e4 : A.eval (.tmp 76) = .agg #[.int .i64 (0), .int .i64 (0)] := dep_of (k := 9) (d := 76) ⟨⟨⟨9, .data⟩, by simp, rfl, by kernel_rfl⟩, by kernel_rfl⟩ hd
                have e5 : A.eval (.tmp 77) = .agg #[.int .i64 (4), .int .i64 (9)] := dep_of (k := 10) (d := 77) ⟨⟨⟨10, .data⟩, by simp, rfl, by kernel_rfl⟩, by kernel_rfl⟩ hd
                exact ⟨#[(0, .agg #[.int .i64 (0), .int .i64 (3)]), (1, .agg #[.int .i64 (0), .int .i64 (4)]), (2, .agg #[.int .i64 (-1), .int .i64 (3)]), (3, .agg #[.int .i64 (2), .int .i64 (2)]), (4, .agg #[.int .i64 (0), .int .i64 (0)]), (5, .agg #[.int .i64 (4), .int .i64 (9)])], by simp [e0, e1, e2, e3, e4, e5], [0, 3, 0, 4, -1, 3, 2, 2, 0, 0, 4, 9], rfl, fun W => by kernel_rfl⟩) (fun _ _ h => h) hJA hFl
            · exact ds_move 5 _ rfl (by kernel_rfl) rfl (fun _ => rfl)
            · exact ds_pick 79 12 6 (fun _ _ => by kernel_rfl) ⟨⟨⟨12, .data⟩, by simp, rfl, by kernel_rfl⟩, by kernel_rfl⟩ (fun _ _ h => h) rfl hPP (by omega) (fun _ _ h => h) hJC (.inl rfl)
            · exact ds_ixI 78 80 11 13 6 rfl ⟨⟨⟨11, .data⟩, by simp, rfl, by kernel_rfl⟩, by kernel_rfl⟩ ⟨⟨⟨13, .data⟩, by simp, rfl, by kernel_rfl⟩, by kernel_rfl⟩ (fun _ _ h => h) (fun _ _ h => h) (by omega) (by omega) (fun _ _ h => h)
            · exact ds_ldI 81 14 rfl ⟨⟨⟨14, .data⟩, by simp, rfl, by kernel_rfl⟩, by kernel_rfl⟩ (fun _ _ h => h) (fun _ _ h => h)
            · intro a w p hp hJ hr hf hd
              have e1 : a.eval (.tmp 68) = .slice (some ⟨tb, 0, none⟩) 4 sc := dep_of (k := 1) (d := 68) ⟨⟨⟨1, .data⟩, by simp, rfl, by kernel_rfl⟩, by kernel_rfl⟩ hd
              obtain ⟨j, e2, hj⟩ := (dep_of (k := 4) (d := 71) ⟨⟨⟨4, .data⟩, by simp, rfl, by kernel_rfl⟩, by kernel_rfl⟩ hd : IsNat _ _)
              have hj := hj (by omega)
              refine op_val (v := .pointer (some ⟨tb, j * 2, none⟩)) (w' := w) ?_ ⟨_, rfl, ⟨j, by omega, rfl⟩, hJ, hr.mono (by omega), Chg.refl _ _⟩
              simp only [execOp, e1, e2]
              have hj3 : j < 4 := by omega
              simp [go_sem, hj]
            · intro a w p hp hJ hr hf hd
              obtain ⟨j, hj, e1⟩ := (dep_of (k := 16) (d := 83) ⟨⟨⟨16, .data⟩, by simp, rfl, by kernel_rfl⟩, by kernel_rfl⟩ hd : ∃ j : Nat, j < 4 ∧ a.eval (.tmp 83) = .pointer (some ⟨tb, j * 2, none⟩))
              obtain ⟨y0, y1, e2⟩ := (dep_of (k := 15) (d := 82) ⟨⟨⟨15, .data⟩, by simp, rfl, by kernel_rfl⟩, by kernel_rfl⟩ hd : IsItv _)
              obtain ⟨h1, h2, h3, h4⟩ := hJ
              obtain ⟨x0, c0⟩ := h4.get (i := j * 2) (by omega)
              obtain ⟨x1, c1⟩ := h4.get (i := j * 2 + 1) (by omega)
              have fz := fun j => h4.fz j
              have hl := h4.lt
              have hch : Chg (fun b => b = tb) w ((w.setCell ⟨tb, j * 2, none⟩ (.int .i64 y0)).setCell ⟨tb, j * 2 + 1, none⟩ (.int .i64 y1)) := chg1 (chg1 (Chg.refl _ _) _) _
              refine op_skip (w' := (w.setCell ⟨tb, j * 2, none⟩ (.int .i64 y0)).setCell ⟨tb, j * 2 + 1, none⟩ (.int .i64 y1)) ?_ ⟨_, rfl, trivial, ⟨h1.trans' hch (by omega), InsB.chgT h2 hch (by omega), h3.chg hch (by omega), (h4.set (i := j * 2) (by omega) y0).set (i := j * 2 + 1) (by omega) y1⟩, (rd_set (rd_set hr (by simp only; omega) _) (by simp only; omega) _).mono (by omega), ⟨hch.os, hch.tape, hch.output, hch.size, fun k hk hn => hch.block k hk (fun e => hn (.inr e))⟩⟩
              simp only [execOp, e1, e2]
              simp [go_sem, fz, c0, c1]
            · rintro vs w9 hJ9 hr9 hR
              have HJ9 := Lib.hid hJ9
              clear hR hJ9 hr9 hPP hJC hJA hFl HC HI HR HRW HB
              simp only [putAll, Act.put, List.setIfInBounds_toArray, List.set_cons_zero, List.set_cons_succ]
              go_wp2_with fail
              go_meet
              case rel => exact ⟨HJ9.out.1, HJ9.out.2.1, HJ9.out.2.2.1, ⟨htc, by omega, .inr ⟨tb, rfl, htE, HJ9.out.2.2.2⟩⟩⟩
          case rest =>
            clear HC HI HB HS HR
            obtain ⟨hC, hI, hB, hS⟩ := hcut
            obtain ⟨w8, hw8⟩ : ∃ W, W = wc := ⟨_, rfl⟩
            rw [← hw8] at hC hI hB hS ⊢
            clear hw8
            have HC := Lib.hid hC
            have HI := Lib.hid hI
            have HB := Lib.hid hB
            have HS := Lib.hid hS
            have hb0 : Blk w8 w.heap.size 25 Zq := Z0.out.chg hC (by omega)
            have hb1 : Blk w8 (w.heap.size + 1) 28 Zi8 := Z1.out.chg hC (by omega)
            have hb2 : Blk w8 (w.heap.size + 1 + 1) 33 Zs := Z2.out.chg hC (by omega)
            have c0 : w8.cell? ⟨b6, 0, none⟩ = some (.slice pa m pc) := (BE.out.chg hC n6).cell 0
            clear hC hI hB hS
            obtain ⟨i7, hI7⟩ := HI.out
            have HI7 := Lib.hid hI7
            have hc7 := fun j => hI7.cell j
            have hl7 := hI7.lt
            have hf7 := fun j => hI7.frozen j
            obtain ⟨o0, o1, o2, o3, o4, o5, o6, o7⟩ := i7
            have t0 : w8.cell? ⟨b7, 0, none⟩ = some (.int .i64 o0) := hc7 0
            have t1 : w8.cell? ⟨b7, 1, none⟩ = some (.int .i64 o1) := hc7 1
            have t2 : w8.cell? ⟨b7, 2, none⟩ = some (.int .i64 o2) := hc7 2
            have t3 : w8.cell? ⟨b7, 3, none⟩ = some (.int .i64 o3) := hc7 3
            have t4 : w8.cell? ⟨b7, 4, none⟩ = some (.int .i64 o4) := hc7 4
            have t5 : w8.cell? ⟨b7, 5, none⟩ = some (.int .i64 o5) := hc7 5
            have t6 : w8.cell? ⟨b7, 6, none⟩ = some (.int .i64 o6) := hc7 6
            have t7 : w8.cell? ⟨b7, 7, none⟩ = some (.int .i64 o7) := hc7 7
            clear hI7 hc7
            have d0 : w8.cell? ⟨b8, 0, none⟩ = some (.bool on) := HB.out.cell 0
            have d1 : w8.cell? ⟨b8, 1, none⟩ = some (.slice sa sn sc) := HB.out.cell 1
            have d2 : w8.cell? ⟨b8, 2, none⟩ = some (.int .i64 lo) := HB.out.cell 2
            have d3 : w8.cell? ⟨b8, 3, none⟩ = some (.int .i64 hi) := HB.out.cell 3
            have d4 := HB.out.lt
            go_upto_region 11 with fail
            obtain ⟨VV, v0, v1, v2, v3, v4, v5, -⟩ := vl [.agg #[.slice pa m pc], .agg #[.int .i64 o0, .int .i64 o1, .int .i64 o2, .int .i64 o3, .int .i64 o4, .int .i64 o5, .int .i64 o6, .int .i64 o7], .agg #[.bool on, .slice sa sn sc, .int .i64 lo, .int .i64 hi], undef, undef, undef]
            have HK := fun W (c : Chg (preB [⟨none, w.heap.size, 3, 25, Zq, #[.slice pa m pc]⟩, ⟨none, w.heap.size + 1, 4, 28, Zi8, #[.int .i64 o0, .int .i64 o1, .int .i64 o2, .int .i64 o3, .int .i64 o4, .int .i64 o5, .int .i64 o6, .int .i64 o7]⟩, ⟨none, w.heap.size + 1 + 1, 5, 33, Zs, #[.bool on, .slice sa sn sc, .int .i64 lo, .int .i64 hi]⟩]) _ W) => And.intro (ck c c0) (And.intro (ck c t0) (And.intro (ck c t1) (And.intro (ck c t2) (And.intro (ck c t3) (And.intro (ck c t4) (And.intro (ck c t5) (And.intro (ck c t6) (And.intro (ck c t7) (And.intro (ck c d0) (And.intro (ck c d1) (And.intro (ck c d2) (ck c d3))))))))))))
            refine region_box 87 [⟨none, w.heap.size, 3, 25, Zq, #[.slice pa m pc]⟩, ⟨none, w.heap.size + 1, 4, 28, Zi8, #[.int .i64 o0, .int .i64 o1, .int .i64 o2, .int .i64 o3, .int .i64 o4, .int .i64 o5, .int .i64 o6, .int .i64 o7]⟩, ⟨none, w.heap.size + 1 + 1, 5, 33, Zs, #[.bool on, .slice sa sn sc, .int .i64 lo, .int .i64 hi]⟩] VV (by kernel_rfl) rfl (by kernel_rfl) rfl (by intro b hb ha; simp only [List.mem_cons, List.not_mem_nil, or_false] at hb; rcases hb with rfl | rfl | rfl <;> first | (cases ha; done) | assumption) (by intro j k b c hjk hj hk hb hc; rcases j with _ | _ | _ | j <;> rcases k with _ | _ | _ | k <;> simp at hj hk hjk <;> (try subst hj) <;> (try subst hk) <;> first | (cases hb; done) | (cases hc; done) | (simp only; omega)) ⟨?_, ?_, ?_, ?_, ?_, ?_, trivial⟩ ?_
            · exact b_vx v0 rfl rfl (fun gm a W h => by have e6 : a.eval (.tmp 6) = .pointer (some ⟨b6, 0, none⟩) := (h.slot 6 (by kernel_rfl)).trans rfl; obtain ⟨kc0, kt0, kt1, kt2, kt3, kt4, kt5, kt6, kt7, kd0, kd1, kd2, kd3⟩ := HK W h.chg; simp only [execOp, e6]; first | (simp [go_sem, kc0, kt0, kt1, kt2, kt3, kt4, kt5, kt6, kt7, kd0, kd1, kd2, kd3] <;> first | exact wrapIn | rfl) | kernel_rfl)
            · exact b_vx v1 rfl rfl (fun gm a W h => by have e7 : a.eval (.tmp 7) = .pointer (some ⟨b7, 0, none⟩) := (h.slot 7 (by kernel_rfl)).trans rfl; obtain ⟨kc0, kt0, kt1, kt2, kt3, kt4, kt5, kt6, kt7, kd0, kd1, kd2, kd3⟩ := HK W h.chg; simp only [execOp, e7]; first | (simp [go_sem, kc0, kt0, kt1, kt2, kt3, kt4, kt5, kt6, kt7, kd0, kd1, kd2, kd3] <;> first | exact wrapIn | rfl) | kernel_rfl)
            · exact b_vx v2 rfl rfl (fun gm a W h => by have e8 : a.eval (.tmp 8) = .pointer (some ⟨b8, 0, none⟩) := (h.slot 8 (by kernel_rfl)).trans rfl; obtain ⟨kc0, kt0, kt1, kt2, kt3, kt4, kt5, kt6, kt7, kd0, kd1, kd2, kd3⟩ := HK W h.chg; simp only [execOp, e8]; first | (simp [go_sem, kc0, kt0, kt1, kt2, kt3, kt4, kt5, kt6, kt7, kd0, kd1, kd2, kd3] <;> first | exact wrapIn | rfl) | kernel_rfl)
            · refine b_store 0 _ rfl rfl rfl v3 (fun j hj => by cases hj) rfl (fun gm a W h hold hb => ?_)
              have hg : gm 0 = w.heap.size := hold rfl
              rw [hg] at hb ⊢
              have e2 : a.eval (.tmp 2) = .pointer (some ⟨w.heap.size, 0, none⟩) := (h.slot 2 (by kernel_rfl)).trans rfl
              have e84 := (h.vb 0 84).trans v0
              simp only at hb
              have hf := fun j => hb.frozen j
              have c0 := hb.cell 0
              refine ⟨_, by (simp only [execOp, e2, e84]; simp [go_sem, hf, c0]; try rfl), blk1 hb _, chgN1 _ _ _⟩
            · refine b_store 1 _ rfl rfl rfl v4 (fun j hj => by cases hj) rfl (fun gm a W h hold hb => ?_)
              have hg : gm 1 = w.heap.size + 1 := hold rfl
              rw [hg] at hb ⊢
              have e3 : a.eval (.tmp 3) = .pointer (some ⟨w.heap.size + 1, 0, none⟩) := (h.slot 3 (by kernel_rfl)).trans rfl
              have e85 := (h.vb 1 85).trans v1
              simp only at hb
              have hf := fun j => hb.frozen j
              have c0 := hb.cell 0
              have c1 := hb.cell 1
              have c2 := hb.cell 2
              have c3 := hb.cell 3
              have c4 := hb.cell 4
              have c5 := hb.cell 5
              have c6 := hb.cell 6
              have c7 := hb.cell 7
              refine ⟨_, by (simp only [execOp, e3, e85]; simp [go_sem, hf, c0, c1, c2, c3, c4, c5, c6, c7]; try rfl), blk8 hb _ _ _ _ _ _ _ _, chgN8 _ _ _ _ _ _ _ _ _ _⟩
            · refine b_store 2 _ rfl rfl rfl v5 (fun j hj => by cases hj) rfl (fun gm a W h hold hb => ?_)
              have hg : gm 2 = w.heap.size + 1 + 1 := hold rfl
              rw [hg] at hb ⊢
              have e4 : a.eval (.tmp 4) = .pointer (some ⟨w.heap.size + 1 + 1, 0, none⟩) := (h.slot 4 (by kernel_rfl)).trans rfl
              have e86 := (h.vb 2 86).trans v2
              simp only at hb
              have hf := fun j => hb.frozen j
              have c0 := hb.cell 0
              have c1 := hb.cell 1
              have c2 := hb.cell 2
              have c3 := hb.cell 3
              refine ⟨_, by (simp only [execOp, e4, e86]; simp [go_sem, hf, c0, c1, c2, c3]; try rfl), blk4 hb _ _ _ _, chgN4 _ _ _ _ _ _⟩
            intro gm vs w9 hc9 hb9 hold9 hge9 hv9
            have x0 := (hv9 0 84 (by kernel_rfl)).trans v0
            have x1 := (hv9 1 85 (by kernel_rfl)).trans v1
            have x2 := (hv9 2 86 (by kernel_rfl)).trans v2
            have y0 := hb9 0 _ rfl
            rw [hold9 0 _ rfl rfl] at y0
            simp only at y0
            have y1 := hb9 1 _ rfl
            rw [hold9 1 _ rfl rfl] at y1
            simp only at y1
            have y2 := hb9 2 _ rfl
            rw [hold9 2 _ rfl rfl] at y2
            simp only at y2
            simp only [putAll, Act.put, List.setIfInBounds_toArray, List.set_cons_zero, List.set_cons_succ, Nat.zero_add, Nat.reduceAdd, x0, x1, x2]
            clear hb9 hold9 hge9 hv9 x0 x1 x2 v0 v1 v2 v3 v4 v5 HK VV
            have hcz : Chg (fun b => b < w.heap.size + 1 + 1 + 1 ∧ w.heap.size ≤ b) w8 w9 := Chg.trans hc9 (Chg.refl _ _) (fun i hi e => by obtain ⟨b, hb, ha, rfl⟩ := e; simp only [List.mem_cons, List.not_mem_nil, or_false] at hb; rcases hb with rfl | rfl | rfl <;> simp only <;> omega) (fun _ _ h => h)
            have g8 : Grew w w8 := GE.out.trans (HC.out.belowB GE.out.size (fun k hk => by omega))
            have HGF := Lib.hid (show Grew w w9 from g8.trans (hcz.belowB g8.size (fun k hk => hk.2)))
            have HPF := Lib.hid (((OE.out.chgG HC.out hgB).chg hcz (fun b hb _ e => by omega)).mono (B' := w.heap.size) (by omega))
            have HSF := Lib.hid (show StD w9 S0 sa sn sc from HS.out.chg hcz (fun t _ ht e => by omega))
            have z0 : w9.cell? ⟨w.heap.size, 0, none⟩ = some (.slice pa m pc) := y0.cell 0
            have z10 : w9.cell? ⟨w.heap.size + 1, 0, none⟩ = some (.int .i64 o0) := y1.cell 0
            have z11 : w9.cell? ⟨w.heap.size + 1, 1, none⟩ = some (.int .i64 o1) := y1.cell 1
            have z12 : w9.cell? ⟨w.heap.size + 1, 2, none⟩ = some (.int .i64 o2) := y1.cell 2
            have z13 : w9.cell? ⟨w.heap.size + 1, 3, none⟩ = some (.int .i64 o3) := y1.cell 3
            have z14 : w9.cell? ⟨w.heap.size + 1, 4, none⟩ = some (.int .i64 o4) := y1.cell 4
            have z15 : w9.cell? ⟨w.heap.size + 1, 5, none⟩ = some (.int .i64 o5) := y1.cell 5
            have z16 : w9.cell? ⟨w.heap.size + 1, 6, none⟩ = some (.int .i64 o6) := y1.cell 6
            have z17 : w9.cell? ⟨w.heap.size + 1, 7, none⟩ = some (.int .i64 o7) := y1.cell 7
            have z20 : w9.cell? ⟨w.heap.size + 1 + 1, 0, none⟩ = some (.bool on) := y2.cell 0
            have z21 : w9.cell? ⟨w.heap.size + 1 + 1, 1, none⟩ = some (.slice sa sn sc) := y2.cell 1
            have z22 : w9.cell? ⟨w.heap.size + 1 + 1, 2, none⟩ = some (.int .i64 lo) := y2.cell 2
            have z23 : w9.cell? ⟨w.heap.size + 1 + 1, 3, none⟩ = some (.int .i64 hi) := y2.cell 3
            clear y0 y1 y2 hcz hc9 hb0 hb1 hb2 c0 t0 t1 t2 t3 t4 t5 t6 t7 d0 d1 d2 d3 d4 g8 HC HI HB HS HI7 hl7 hf7
            go_wp2
            refine bodyPost_ret (by simp [results, Tryz.results38, go_sem, z0, z10, z11, z12, z13, z14, z15, z16, z17, z20, z21, z22, z23]; try rfl) rfl ?_
            exact ⟨pa, m, pc, ms, ⟨o0, o1, o2, o3, o4, o5, o6, o7⟩, on, sa, sn, sc, lo, hi, rfl, HPF.out, hm5, HML.out, HSF.out.mono (by omega), HGF.out⟩
end Go.Proofs.YtpmfpgbpndobpaaGreat
