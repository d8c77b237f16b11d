/- The draw DrawPrgAt. No condition. -/
import Derived.Test.YtnjoofpllhbccaaDrX
namespace Go.Proofs.Ytnjoofpllhbccaa
open Go.RowKit
set_option linter.unusedVariables false
set_option linter.unusedSimpArgs false
attribute [local go_sem] dg_cell dg_frozen dg_lt dg_lt1 dg_lt2 dg_ne dg_ne1 dg_ne2 dg_new dg_wen lt_s2 lt_s3 lt_s4 lt_s5 lt_s6

/-- A program in memory that is there. -/
def PrgIn (w : World) (a : Option Addr) (n : Nat) (ps : List Prc) : Prop := RdP w a n ps ∧ n ≤ 5 ∧ ∀ p, p ∈ ps → p.code.length ≤ 12
theorem PrgIn.grew {w w' : World} {a : Option Addr} {n : Nat} {ps : List Prc} (h : PrgIn w a n ps) (hg : Grew w w') : PrgIn w' a n ps := ⟨h.1.grew hg, h.2⟩
theorem PrgIn.of {w : World} {B n cap : Nat} {a : Option Addr} {ms : List (Prc × Value)} (h : OwnP w B (.slice a n cap) n ms) (hn : n ≤ 5) (hm : ∀ m, m ∈ ms → m.1.code.length ≤ 12) : PrgIn w a n (ms.map (·.1)) :=
  ⟨h.rd, hn, fun p hp => by obtain ⟨m, hm1, rfl⟩ := List.mem_map.1 hp; exact hm m hm1⟩
theorem PrgIn.len {w : World} {a : Option Addr} {n : Nat} {ps : List Prc} (h : PrgIn w a n ps) : ps.length = n := h.1.len

set_option maxRecDepth 100000 in
set_option maxHeartbeats 1000000 in
theorem drawPrgAt (a : Option Addr) (n cap : Nat) (zs : List Int) (w : World) (hr : Rd w a n 1 (ints .u8 zs)) (hz : Bs zs) (hc : n ≤ cap ∧ cap ≤ maxLen) :
    Calls Try.prog 27 #[.slice a n cap] w fun e w' => ∃ a' m c' ps x y, e = .returned (.tuple #[.agg #[.slice a' m c'], .int .i64 x, .int .i64 y]) ∧ PrgIn w' a' m ps ∧ Grew w w' := by
  have HR0 := Lib.hid (hr.grew (grew_al (Below.refl _ w) (.cells Zq 49))); clear hr
  have HZ := Lib.hid hz; clear hz
  go_enter Try.func27, Try.ntmps27
  go_wp2_with fail
  refine (l20Open _ _ _ _ _ HR0.out HZ.out hc).mono ?_
  rintro e w1 ⟨rfl, h1, h2⟩
  have hZ1 : Blk w1 w.heap.size 49 Zq := (Blk.new w _ _).grew h2
  have G1 : Grew w w1 := grew_tr (grew_al (Below.refl _ w) _) h2
  obtain ⟨g, hg⟩ : ∃ g, w.heap.size + 1 = g := ⟨_, rfl⟩
  simp only [World.size_alloc, hg] at h1 ⊢
  have hgw : w.heap.size < g := by omega
  have ngz : ¬ w.heap.size = g := by omega
  have lg := h1.lt
  have H1 := Lib.hid h1
  clear h1 h2 hg HR0 HZ
  go_wp2_with fail
  refine Calls.mono (progOrG (q := 9) H1.out (by omega) (by omega)) ?_
  rintro e w2 ⟨v, m, ms, rfl, ho, hm5, hml, hr2, hc2⟩
  obtain ⟨pa, pc, rfl⟩ := owns_slice ho.2.1
  go_wp2_with fail
  refine Calls.mono (pickG (k := 6) hr2 (by omega) (by omega)) ?_
  rintro e w3 ⟨v, rfl, ⟨x, rfl, hx⟩, hr3, hc3⟩
  have hx := hx (by omega)
  go_wp2_with fail
  refine Calls.mono (pickG (k := 12) hr3 (by omega) (by omega)) ?_
  rintro e w4 ⟨v, rfl, ⟨y, rfl, hy⟩, hr4, hc4⟩
  have hy := hy (by omega)
  have hC : ChgG g w1 w4 := (hc2.trans hc3).trans hc4
  have hO4 : OwnP w4 w1.heap.size (.slice pa m pc) m ms := by
    have hcc : ChgG g w2 w4 := hc3.trans hc4
    exact ⟨ho.1, owns_chg ho.2.1 hcc (fun b hb e => by have := (ho.2.1.lt b hb).1; omega), fun q hq => owns_chg (ho.2.2 q hq) hcc (fun b hb e => by have := ((ho.2.2 q hq).lt b hb).1; omega)⟩
  have Z4 := Lib.hid (hZ1.chg hC ngz)
  have G4 := Lib.hid (G1.trans (hC.belowB G1.size (fun k hk => by omega)))
  have O4 := Lib.hid hO4
  have HML := Lib.hid hml
  have z0 : w4.cell? ⟨w.heap.size, 0, none⟩ = some (.slice none 0 0) := Z4.out.cell 0
  have zf := fun j => Z4.out.frozen j
  have zl := Z4.out.lt
  clear hc2 hc3 hc4 hr2 hr3 hr4 hO4 ho hC hZ1 G1 hml H1
  go_wp2
  refine bodyPost_ret (by simp [results, Try.results27, go_sem, z0, zl]; try rfl) rfl ?_
  refine ⟨pa, m, pc, _, _, _, rfl, PrgIn.of (O4.out.far Z4.out (by decide) (by decide) _ _) hm5 HML.out, ?_⟩
  exact grew_set G4.out (Nat.le_refl _) _
end Go.Proofs.Ytnjoofpllhbccaa
