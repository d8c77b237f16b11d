/- The draws that hand on a program and a number. No condition. -/
import Derived.Test.YtnjoofpllhbccaaDrGc
namespace Go.Proofs.Ytnjoofpllhbccaa
open Go.RowKit
set_option linter.unusedVariables false
set_option linter.unusedSimpArgs false
attribute [local go_sem] ext_cell ext_frozen ext_lt ext_le ext_le1 lt_s2 lt_s3 lt_s4 lt_s5 lt_s6 ext_lt1 ext_lt2 ext_lt3

/-- A program was drawn. -/
def RetPO (w : World) (e : Ending) (w' : World) : Prop := ∃ a' m c' ps, e = .returned (.agg #[.slice a' m c']) ∧ PrgIn w' a' m ps ∧ Grew w w'
/-- A store to a box of one slice leaves a program that is read: its first cells are numbers. -/
theorem cell_box {w : World} {g b j : Nat} {t : TypeId} {k : IntKind} {x : Int} (hb : Blk w g t #[.slice none 0 0]) (h : w.cell? ⟨b, j, none⟩ = some (.int k x)) : g ≠ b := by
  rintro rfl
  rw [hb.cell] at h
  rcases j with _ | j <;> simp at h
theorem rdI_box {w : World} {a : Option Addr} {n g : Nat} {t : TypeId} {is : List Ins} (h : RdL EIns 8 w a n is) (hb : Blk w g t #[.slice none 0 0]) (o : Nat) (u : Value) : RdL EIns 8 (w.setCell ⟨g, o, none⟩ u) a n is := by
  rcases Nat.eq_zero_or_pos n with rfl | hn
  · exact ⟨h.1, .inl rfl⟩
  · obtain ⟨b, off, op, d, ia, ib, rel, lo, hi, to, rfl, hx, c0, _⟩ := rdI_at h hn
    have hne := cell_box hb c0
    refine RdL.mono (w := w) (fun cs x e => e) (fun b' o' v hv he => ?_) h
    obtain ⟨o2, e⟩ := he
    cases e
    exact (World.cell?_setCell_far _ _ _ _ hne).trans hv
theorem rdP_box {w : World} {a : Option Addr} {n g : Nat} {t : TypeId} {ps : List Prc} (h : RdP w a n ps) (hb : Blk w g t #[.slice none 0 0]) (o : Nat) (u : Value) : RdP (w.setCell ⟨g, o, none⟩ u) a n ps := by
  rcases Nat.eq_zero_or_pos n with rfl | hn
  · exact ⟨h.1, .inl rfl⟩
  · obtain ⟨b, off, lo, hi, is, ia, ic, rfl, hx, c0, _⟩ := rdP_at h hn
    have hne := cell_box hb c0
    refine RdL.mono (fun cs p e => ?_) (fun b' o' v hv he => ?_) h
    · obtain ⟨a', c', h1, h2, h3⟩ := e
      exact ⟨a', c', h1, rdI_box h2 hb o u, h3⟩
    · obtain ⟨o2, e⟩ := he
      cases e
      exact (World.cell?_setCell_far _ _ _ _ hne).trans hv
theorem PrgIn.box {w : World} {a : Option Addr} {n g : Nat} {t : TypeId} {ps : List Prc} (h : PrgIn w a n ps) (hb : Blk w g t #[.slice none 0 0]) (o : Nat) (u : Value) : PrgIn (w.setCell ⟨g, o, none⟩ u) a n ps := ⟨rdP_box h.1 hb o u, h.2⟩
theorem drawGrfReach (a : Option Addr) (n cap : Nat) (zs : List Int) (w : World) (hr : Rd w a n 1 (ints .u8 zs)) (hz : Bs zs) (hc : n ≤ cap ∧ cap ≤ maxLen) :
    Calls Try.prog 52 #[.slice a n cap] w (RetPN w) := by
  have HR0 := Lib.hid (hr.grew (grew_al (Below.refl _ w) (.cells Zq 49))); clear hr
  have HZ := Lib.hid hz; clear hz
  go_enter Try.func52, Try.ntmps52
  go_wp2_with fail
  refine (drawGrfCalls a n cap zs _ HR0.out HZ.out hc).mono ?_
  rintro e w1 ⟨pa, m, pc, ps, x, rfl, hp, g1⟩
  have Z1 := Lib.hid (show Blk w1 w.heap.size 49 Zq from (Blk.new w _ _).grew g1)
  have G1 := Lib.hid (show Grew w w1 from grew_tr (grew_al (Below.refl _ w) _) g1)
  have P1 := Lib.hid hp
  have z0 : w1.cell? ⟨w.heap.size, 0, none⟩ = some (.slice none 0 0) := Z1.out.cell 0
  have zf := fun j => Z1.out.frozen j
  have zl := Z1.out.lt
  clear hp g1 HR0 HZ
  go_wp2
  refine bodyPost_ret (by simp [results, Try.results52, go_sem, z0, zl]; try rfl) rfl ?_
  refine ⟨pa, m, pc, ps, _, rfl, P1.out.box Z1.out _ _, grew_set G1.out (Nat.le_refl _) _⟩
theorem drawGrfPart (a : Option Addr) (n cap : Nat) (zs : List Int) (w : World) (hr : Rd w a n 1 (ints .u8 zs)) (hz : Bs zs) (hc : n ≤ cap ∧ cap ≤ maxLen) :
    Calls Try.prog 55 #[.slice a n cap] w (RetPN w) := by
  have HR0 := Lib.hid (hr.grew (grew_al (Below.refl _ w) (.cells Zq 49))); clear hr
  have HZ := Lib.hid hz; clear hz
  go_enter Try.func55, Try.ntmps55
  go_wp2_with fail
  refine (drawGrfCalls a n cap zs _ HR0.out HZ.out hc).mono ?_
  rintro e w1 ⟨pa, m, pc, ps, x, rfl, hp, g1⟩
  have Z1 := Lib.hid (show Blk w1 w.heap.size 49 Zq from (Blk.new w _ _).grew g1)
  have G1 := Lib.hid (show Grew w w1 from grew_tr (grew_al (Below.refl _ w) _) g1)
  have P1 := Lib.hid hp
  have z0 : w1.cell? ⟨w.heap.size, 0, none⟩ = some (.slice none 0 0) := Z1.out.cell 0
  have zf := fun j => Z1.out.frozen j
  have zl := Z1.out.lt
  clear hp g1 HR0 HZ
  go_wp2
  refine bodyPost_ret (by simp [results, Try.results55, go_sem, z0, zl]; try rfl) rfl ?_
  refine ⟨pa, m, pc, ps, _, rfl, P1.out.box Z1.out _ _, grew_set G1.out (Nat.le_refl _) _⟩
theorem drawGrfParts (a : Option Addr) (n cap : Nat) (zs : List Int) (w : World) (hr : Rd w a n 1 (ints .u8 zs)) (hz : Bs zs) (hc : n ≤ cap ∧ cap ≤ maxLen) :
    Calls Try.prog 58 #[.slice a n cap] w (RetPO w) := by
  have HR0 := Lib.hid (hr.grew (grew_al (Below.refl _ w) (.cells Zq 49))); clear hr
  have HZ := Lib.hid hz; clear hz
  go_enter Try.func58, Try.ntmps58
  go_wp2_with fail
  refine (drawGrfCalls a n cap zs _ HR0.out HZ.out hc).mono ?_
  rintro e w1 ⟨pa, m, pc, ps, x, rfl, hp, g1⟩
  have Z1 := Lib.hid (show Blk w1 w.heap.size 49 Zq from (Blk.new w _ _).grew g1)
  have G1 := Lib.hid (show Grew w w1 from grew_tr (grew_al (Below.refl _ w) _) g1)
  have P1 := Lib.hid hp
  have z0 : w1.cell? ⟨w.heap.size, 0, none⟩ = some (.slice none 0 0) := Z1.out.cell 0
  have zf := fun j => Z1.out.frozen j
  have zl := Z1.out.lt
  clear hp g1 HR0 HZ
  go_wp2
  refine bodyPost_ret (by simp [results, Try.results58, go_sem, z0, zl]; try rfl) rfl ?_
  refine ⟨pa, m, pc, ps, rfl, ?_, ?_⟩
  · first | exact (P1.out.box Z1.out _ _).grew (grew_al (Below.refl _ _) _) | exact (P1.out.grew (grew_al (Below.refl _ _) _)).box (Z1.out.alloc _) _ _
  · first | exact grew_al (grew_set G1.out (Nat.le_refl _) _) _ | exact grew_set (grew_al G1.out _) (Nat.le_refl _) _
end Go.Proofs.Ytnjoofpllhbccaa
