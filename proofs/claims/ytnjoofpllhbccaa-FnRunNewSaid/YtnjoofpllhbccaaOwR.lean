/- What the laws ask of runs: equal. No condition. -/
import Derived.Test.YtnjoofpllhbccaaOw
import Derived.Test.YtnjoofpllhbccaaRunD
namespace Go.Proofs.Ytnjoofpllhbccaa
open Go.RowKit
set_option linter.unusedVariables false
set_option linter.unusedSimpArgs false
attribute [local go_sem] ext_cell ext_frozen ext_lt ext_le ext_le1 lt_s2 lt_s3 lt_s4 lt_s5 lt_s6 ext_lt1 ext_lt2 ext_lt3

theorem wp_letR {P : Program} {c : Code} {Q : Exit → Act → World → Prop} {a : Act} {W : World} (h : ∀ E, E = W → c.wp P Q a E) : c.wp P Q a W := h W rfl
set_option maxHeartbeats 1000000 in
theorem owFrameE (proc pc : Int) (va va' ca ca' : Option Addr) (vn vc vc' cn cc cc' : Nat) (vs cs : List Int) (w : World) (h1 : Rd w va vn 1 (ints .i64 vs)) (h2 : Rd w ca cn 1 (ints .i64 cs)) (h1' : Rd w va' vn 1 (ints .i64 vs)) (h2' : Rd w ca' cn 1 (ints .i64 cs))
    (n1 : vn ≤ 1000) (n2 : cn ≤ 1000) :
    Calls Try.prog 107 #[.agg #[.int .i64 proc, .int .i64 pc, .slice va vn vc, .slice ca cn cc], .agg #[.int .i64 proc, .int .i64 pc, .slice va' vn vc', .slice ca' cn cc']] w (fun e w' => e = .returned (.bool true) ∧ Grew w w') := by
  have HC := Lib.hid (fun W (h : Grew w W) => owIntsE va vn vc va' vn vc' vs W (h1.grew h) (h1'.grew h) n1)
  have HD := Lib.hid (fun W (h : Grew w W) => owIntsE ca cn cc ca' cn cc' cs W (h2.grew h) (h2'.grew h) n2)
  clear h1 h2 h1' h2'
  go_enter Try.func107, Try.ntmps107
  go_wp2_with (first | ((with_reducible refine (HC.out _ (by repeat (first | with_reducible exact Below.refl _ _ | with_reducible assumption | with_reducible apply grew_ext | with_reducible apply grew_al | with_reducible apply grew_dn | with_reducible apply grew_d | (with_reducible refine grew_set ?_ (by first | omega | (repeat (first | with_reducible exact Nat.le_refl _ | with_reducible apply le_pl | with_reducible apply le_ext | with_reducible apply le_al))) _)))).mono ?_); rintro e w' ⟨rfl, g'⟩; (first | obtain ⟨y, rfl⟩ := ext_cold g' | obtain ⟨y, rfl⟩ := ext_col g' | obtain ⟨y, rfl⟩ := ext_of g'); clear g') | ((with_reducible refine (HD.out _ (by repeat (first | with_reducible exact Below.refl _ _ | with_reducible assumption | with_reducible apply grew_ext | with_reducible apply grew_al | with_reducible apply grew_dn | with_reducible apply grew_d | (with_reducible refine grew_set ?_ (by first | omega | (repeat (first | with_reducible exact Nat.le_refl _ | with_reducible apply le_pl | with_reducible apply le_ext | with_reducible apply le_al))) _)))).mono ?_); rintro e w' ⟨rfl, g'⟩; (first | obtain ⟨z, rfl⟩ := ext_cold g' | obtain ⟨z, rfl⟩ := ext_col g' | obtain ⟨z, rfl⟩ := ext_of g'); clear g'))
  go_ret
  refine ⟨by simp, ?_⟩
  repeat (first | with_reducible exact Below.refl _ _ | with_reducible assumption | with_reducible apply grew_ext | with_reducible apply grew_al | with_reducible apply grew_dn | with_reducible apply grew_d | (with_reducible refine grew_set ?_ (by first | omega | (repeat (first | with_reducible exact Nat.le_refl _ | with_reducible apply le_pl | with_reducible apply le_ext | with_reducible apply le_al))) _))
set_option maxHeartbeats 2000000 in
theorem owRunE (st : Int) (a a' : Option Addr) (n cap cap' : Nat) (ps : List Fr) (out proc pc : Int) (w : World) (hr : RdF w a n ps) (hr' : RdF w a' n ps) (hn : n ≤ 1000) (hs : ∀ p, p ∈ ps → p.vars.length ≤ 1000 ∧ p.cells.length ≤ 1000) :
    Calls Try.prog 43 #[.agg #[.int .i64 st, .slice a n cap, .int .i64 out, .int .i64 proc, .int .i64 pc], .agg #[.int .i64 st, .slice a' n cap', .int .i64 out, .int .i64 proc, .int .i64 pc]] w (fun e w' => e = .returned (.bool true) ∧ Grew w w') := by
  have HR := Lib.hid hr; clear hr
  have HS := Lib.hid hs; clear hs
  have HR' := Lib.hid hr'; clear hr'
  go_enter Try.func43, Try.ntmps43
  go_wp2
  refine wp_letR ?_
  intro E hE
  have GE : Grew w E := by rw [hE]; repeat (first | with_reducible exact Below.refl _ _ | with_reducible assumption | with_reducible apply grew_ext | with_reducible apply grew_al | with_reducible apply grew_dn | with_reducible apply grew_d | (with_reducible refine grew_set ?_ (by first | omega | (repeat (first | with_reducible exact Nat.le_refl _ | with_reducible apply le_pl | with_reducible apply le_ext | with_reducible apply le_al))) _))
  have q0 : E.cell? ⟨w.heap.size, 1, none⟩ = some (.slice a n cap) := by rw [hE]; simp [go_sem]
  have q1 : E.cell? ⟨w.heap.size + 1, 1, none⟩ = some (.slice a' n cap') := by rw [hE]; simp [go_sem]
  have l0 : w.heap.size < E.heap.size := by rw [hE]; simp only [World.size_alloc]; omega
  have l1 : w.heap.size + 1 < E.heap.size := by rw [hE]; simp only [World.size_alloc]; omega
  have HSO := Lib.hid (fun W (h : Grew E W) => (⟨(h.cell (p := ⟨w.heap.size, 1, none⟩) l0).trans q0, (h.cell (p := ⟨w.heap.size + 1, 1, none⟩) l1).trans q1, Nat.lt_of_lt_of_le l0 h.size, Nat.lt_of_lt_of_le l1 h.size⟩ : W.cell? ⟨w.heap.size, 1, none⟩ = some (.slice a n cap) ∧ W.cell? ⟨w.heap.size + 1, 1, none⟩ = some (.slice a' n cap') ∧ w.heap.size < W.heap.size ∧ w.heap.size + 1 < W.heap.size))
  have HGE := Lib.hid GE
  clear hE q0 q1 l0 l1 GE
  go_loopw [5] (fun i wr => ∃ k : Nat, k ≤ n ∧ i = .int .i64 k ∧ Grew E wr) (fun i _ => n - (intOf i).toNat)
  case atStart => exact ⟨0, Nat.zero_le _, rfl, Below.refl _ _⟩
  case round =>
    obtain ⟨k, hk, rfl, hg⟩ := hrel
    obtain ⟨q0, q1, l0, l1⟩ := HSO.out _ hg
    have HG := Lib.hid hg
    by_cases hlt : k < n
    · obtain ⟨b, off, proc', pc', vs, cs, va, vc, ca, cc, rfl, hx, c0, c1, c2, c3, hb, hi1, hi2, hi3, hi4⟩ := rdF_at (HR.out.grew (grew_tr HGE.out hg)) hlt
      obtain ⟨b', off', proc2, pc2, vs', cs', va', vc', ca', cc', rfl, hx', c0', c1', c2', c3', hb', hi1', hi2', hi3', hi4'⟩ := rdF_at (HR'.out.grew (grew_tr HGE.out hg)) hlt
      have z1 := HS.out _ (List.mem_of_getElem? hx)
      rw [hx] at hx'
      cases hx'
      simp only at z1
      have HC := Lib.hid (fun W (g : Grew wr W) => owFrameE proc' pc' va va' ca ca' vs.length vc vc' cs.length cc cc' vs cs W (hi1.grew g) (hi2.grew g) (hi1'.grew g) (hi2'.grew g) z1.1 z1.2)
      clear hi1 hi2 hi3 hi4 hi1' hi2' hi3' hi4' z1 hx hg
      go_wp2_with fail
      first | refine wp_region_ext2 (by kernel_rfl) (by kernel_rfl) ?_ | refine wp_region_ext (by kernel_rfl) (by kernel_rfl) ?_
      repeat (go_big_quiet_step ((first | (with_reducible exact ext_grow (HC.out _ (by repeat (first | with_reducible exact Below.refl _ _ | with_reducible assumption | with_reducible apply grew_ext | with_reducible apply grew_al | with_reducible apply grew_dn | with_reducible apply grew_d | (with_reducible refine grew_set ?_ (by first | omega | (repeat (first | with_reducible exact Nat.le_refl _ | with_reducible apply le_pl | with_reducible apply le_ext | with_reducible apply le_al))) _))))))))
      refine wpQuiet_nil ?_
      intro _ hw'
      obtain ⟨y, hw''⟩ := hw'
      subst hw''
      have HG2 := Lib.hid (show Grew E (ext wr y) from grew_tr HG.out (by repeat (first | with_reducible exact Below.refl _ _ | with_reducible assumption | with_reducible apply grew_ext | with_reducible apply grew_al | with_reducible apply grew_dn | with_reducible apply grew_d | (with_reducible refine grew_set ?_ (by first | omega | (repeat (first | with_reducible exact Nat.le_refl _ | with_reducible apply le_pl | with_reducible apply le_ext | with_reducible apply le_al))) _))))
      clear c0 c1 c2 c3 c0' c1' c2' c3' q0 q1
      go_wp2
      go_roundw
      case rel => exact ⟨k + 1, by omega, by go_num, HG2.out⟩
      case measure => simp [intOf]; omega
    · clear hg
      go_wp2
      go_ret
      exact ⟨rfl, grew_tr HGE.out HG.out⟩
end Go.Proofs.Ytnjoofpllhbccaa
