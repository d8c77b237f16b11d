/- Rows of places with states as results of a law: compared, marked, held. No condition. -/
import Derived.Test.YtpmfpgbpndobpaaGreatStepG
import Derived.Test.YtpmfpgbpndobpaaGreatState
import Derived.Test.YtpmfpgbpndobpaaGreatHas
namespace Go.Proofs.YtpmfpgbpndobpaaGreat
open Go.RowKit
set_option linter.unusedVariables false
set_option linter.unusedSimpArgs false
attribute [local go_sem] ext_cell ext_frozen ext_lt ext_le ext_le1 lt_s2 lt_s3 lt_s4 lt_s5 lt_s6 ext_lt1 ext_lt2 ext_lt3

/-! The reading of such a row. -/
def EEg : World → List Value → Ed → Prop := fun w cs e => ∃ a c, cs = [.int .i64 e.to, .bool true, .slice a e.xs.length c, .int .i64 e.c.lo, .int .i64 e.c.hi] ∧ RdL EItv 2 w a e.xs.length e.xs ∧ e.xs.length ≤ 1000
theorem staysEg : Stays EEg := fun w w' cs e hg ⟨a, c, h1, h2, h3⟩ => ⟨a, c, h1, h2.grew staysItv hg, h3⟩
theorem OwnE.rd {w : World} {B n c : Nat} {a : Option Addr} {ms : List (Ed × Value)} {es : List Ed} (h : OwnE w B (.slice a n c) n ms) (hm : ms.map (·.1) = es) (h4 : ∀ e, e ∈ es → e.xs.length = 4) : RdL EEg 5 w a n es := by
  subst hm
  refine ⟨by rw [List.length_map]; exact h.1, ?_⟩
  rcases h.2.1.2 with ⟨h0, h1⟩ | ⟨g, cap, cur, hv, hB, hb, hc1, hc2, hsz, htk⟩
  · exact .inl h1
  · simp only [Value.slice.injEq] at hv
    obtain ⟨rfl, -, rfl⟩ := hv
    refine .inr ⟨g, 0, rfl, fun k x hx => ?_⟩
    rw [List.getElem?_map] at hx
    obtain ⟨m, hm, rfl⟩ := Option.map_eq_some_iff.1 hx
    have hmem := List.mem_of_getElem? hm
    have h5 := h4 m.1 (List.mem_map_of_mem hmem)
    obtain ⟨ra, rc, hr⟩ := owns_slice (h.2.2 m hmem)
    refine ⟨esC m, rfl, fun j u hu => ?_, ra, rc, by rw [esC, hr], ?_, by omega⟩
    · have hk : k < n := by rw [← h.1]; exact (List.getElem?_eq_some_iff.1 hm).1
      have hj : j < 5 := (List.getElem?_eq_some_iff.1 hu).1
      rw [Nat.zero_add]
      exact (h.2.1.cellAt (k * 5 + j) (by omega)).trans (flat_get esC 5 esC_len ms k m j u hm hu)
    · have := h.2.2 m hmem
      rw [hr] at this
      exact rdItv_of_own rfl this
set_option maxHeartbeats 2000000 in
theorem eqAbsEdgeT (to : Int) (a a' : Option Addr) (n c c' : Nat) (xs : List Itv) (lo hi : Int) (w : World) (hr : RdL EItv 2 w a n xs) (hr' : RdL EItv 2 w a' n xs) (hn : n ≤ 1000) :
    Calls Tryz.prog 76 #[.agg #[.int .i64 to, .bool true, .slice a n c, .int .i64 lo, .int .i64 hi], .agg #[.int .i64 to, .bool true, .slice a' n c', .int .i64 lo, .int .i64 hi]] w fun e w' => e = .returned (.bool true) ∧ Grew w w' := by
  have C := fun W (h : Grew w W) => eqAbsState true true a a' n n c c' xs xs lo hi lo hi W (hr.grew staysItv h) (hr'.grew staysItv h) (by omega) (by omega)
  simp only [decide_true] at C
  have HC := Lib.hid C; clear C hr hr'
  go_enter Tryz.func76, Tryz.ntmps76
  go_wp2_with ((with_reducible refine (HC.out _ (gr)).mono ?_); rintro e w' ⟨rfl, g'⟩; (first | obtain ⟨x, rfl⟩ := ext_cold g' | obtain ⟨x, rfl⟩ := ext_col g' | obtain ⟨x, rfl⟩ := ext_of g'); clear g')
  go_ret
  exact ⟨rfl, gr⟩
set_option maxHeartbeats 4000000 in
theorem eqAbsEdgeST (a a' : Option Addr) (cap cap' : Nat) (es : List Ed) (w : World) (hr : RdL EEg 5 w a es.length es) (hr' : RdL EEg 5 w a' es.length es) (hn0 : es.length ≤ 1000) :
    Calls Tryz.prog 29 #[.slice a es.length cap, .slice a' es.length cap'] w fun e w' => e = .returned (.bool true) ∧ Grew w w' := by
  obtain ⟨n, hn⟩ : ∃ n, es.length = n := ⟨_, rfl⟩
  rw [hn] at hr hr' hn0 ⊢
  have HR := Lib.hid hr; clear hr
  have HR' := Lib.hid hr'; clear hr'
  clear hn
  go_enter Tryz.func29, Tryz.ntmps29
  go_wp2
  go_loopw [5] (fun i wr => ∃ k : Nat, k ≤ n ∧ i = .int .i64 k ∧ Grew w wr) (fun i _ => n - (intOf i).toNat)
  case atStart => exact ⟨0, Nat.zero_le _, rfl, Below.refl _ _⟩
  case round =>
    obtain ⟨k, hk, rfl, hg⟩ := hrel
    by_cases hlt : k < n
    · obtain ⟨b, off, ⟨eto, exs, ⟨el, eh⟩⟩, cc, hsa, hx, hcl, hcell, ⟨ra, rc, hcc, hrr, hl⟩⟩ := (HR.out.grew staysEg hg).at_ hlt
      obtain ⟨b', off', e', cc', hsa', hx', hcl', hcell', ⟨ra', rc', hcc', hrr', hl'⟩⟩ := (HR'.out.grew staysEg hg).at_ hlt
      subst hsa hsa'
      rw [hx] at hx'
      cases hx'
      subst hcc hcc'
      simp only at hcell hcell' hrr hrr' hl
      have c0 := hcell 0 _ rfl
      have c1 := hcell 1 _ rfl
      have c2 := hcell 2 _ rfl
      have c3 := hcell 3 _ rfl
      have c4 := hcell 4 _ rfl
      have c0' := hcell' 0 _ rfl
      have c1' := hcell' 1 _ rfl
      have c2' := hcell' 2 _ rfl
      have c3' := hcell' 3 _ rfl
      have c4' := hcell' 4 _ rfl
      simp only [Nat.add_zero] at c0 c0'
      have hb := World.block_lt_of_cell? _ _ c0
      have hb' := World.block_lt_of_cell? _ _ c0'
      simp only at hb hb'
      have HG := Lib.hid hg; clear hg
      obtain ⟨q, hq⟩ : ∃ q, exs.length = q := ⟨_, rfl⟩
      rw [hq] at c2 c2' hrr hrr' hl
      have C := fun x => eqAbsEdgeT eto ra ra' q rc rc' exs el eh (ext wr x) (hrr.grew staysItv (ext_grew _ x)) (hrr'.grew staysItv (ext_grew _ x)) hl
      have HC := Lib.hid C
      clear C hrr hrr' hx hcell hcell' hcl hcl' hl' hq
      go_wp2_with fail
      first | refine wp_region_ext2 (by kernel_rfl) (by kernel_rfl) ?_ | refine wp_region_ext (by kernel_rfl) (by kernel_rfl) ?_
      repeat (go_big_quiet_step ((first | (with_reducible exact ext_grow (HC.out _)))))
      refine wpQuiet_nil ?_
      intro _ hw'
      obtain ⟨x, hw''⟩ := hw'
      subst hw''
      go_wp2
      go_roundw
      case rel => exact ⟨k + 1, by omega, by go_num, grew_ext HG.out x⟩
      case measure => simp [intOf]; omega
    · have HG := Lib.hid hg; clear hg
      go_wp2
      go_ret
      exact ⟨rfl, HG.out⟩
end Go.Proofs.YtpmfpgbpndobpaaGreat
