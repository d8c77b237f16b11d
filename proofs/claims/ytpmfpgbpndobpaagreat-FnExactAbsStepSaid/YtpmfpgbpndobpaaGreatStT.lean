/- Lemmas and walks of this proof, some texts one behind the other. No condition. -/
import Derived.Test.YtpmfpgbpndobpaaGreatHas
import Derived.Test.YtpmfpgbpndobpaaGreatItvM
import Derived.Test.YtpmfpgbpndobpaaGreatState
set_option linter.unusedSimpArgs false
set_option linter.unusedVariables false
/- A program's marking, with the count's bound. No condition. -/
namespace Go.Proofs.YtpmfpgbpndobpaaGreat
open Go.RowKit
set_option linter.unusedVariables false
set_option linter.unusedSimpArgs false
attribute [local go_sem] ext_cell ext_frozen ext_lt ext_le ext_le1 lt_s2 lt_s3 lt_s4 lt_s5 lt_s6 ext_lt1 ext_lt2 ext_lt3

set_option maxHeartbeats 4000000 in
theorem markPrcProcSB (a : Option Addr) (n cap : Nat) (k0 : Nat) (B N : Nat) (ms : List (Prc × Value)) (w : World) (ho : OwnP w B (.slice a n cap) n ms) (hB : BlkP B N (.slice a n cap) ms) (hk0 : k0 ≤ 1000000) (hn : n ≤ 1048576) (hs : ∀ m, m ∈ ms → m.1.code.length ≤ 1048576) :
    Calls Tryz.prog 81 #[.slice a n cap, .int .i64 k0] w fun e w' => (∃ K : Nat, e = .returned (.int .i64 K) ∧ K ≤ 11000000000000) ∧ Chg (fun b => B ≤ b ∧ b < N) w w' := by
  have HML := Lib.hid ho.1
  have HI : Hid (MInv w B N n cap a ms w) := Lib.hid ⟨Chg.refl _ _, ⟨_, ho.2.1, fun k m h => prcCells_get ms k m h⟩, fun m hm => ⟨_, ho.2.2 m hm⟩⟩
  have HB := Lib.hid hB; clear hB
  have HS := Lib.hid hs; clear hs ho
  go_enter Tryz.func81, Tryz.ntmps81
  go_wp2
  go_loopw [1, 5] (fun kk i wr => ∃ k K : Nat, k ≤ n ∧ K ≤ k0 + k * 8388610 ∧ i = .int .i64 k ∧ kk = .int .i64 K ∧ MInv w B N n cap a ms wr) (fun _ i _ => n - (intOf i).toNat)
  case atStart => exact ⟨0, k0, Nat.zero_le _, by omega, rfl, rfl, HI.out⟩
  case round =>
    clear HI
    obtain ⟨k, K, hk, hK, rfl, rfl, hg, ⟨ys, how, hys⟩, hcs⟩ := hrel
    have hKb : K ≤ 11000000000000 := by omega
    have HK := Lib.hid hK; clear hK
    by_cases hlt : k < n
    · obtain ⟨g, rfl⟩ : ∃ g, a = some ⟨g, 0, none⟩ := by
        rcases how.2 with ⟨h1, h2⟩ | ⟨g, cap', cur, h1, _⟩
        · omega
        · simp only [Value.slice.injEq] at h1
          exact ⟨g, h1.1⟩
      obtain ⟨m, hm⟩ : ∃ m, ms[k]? = some m := ⟨_, List.getElem?_eq_getElem (by have := HML.out; omega)⟩
      have hmm : m ∈ ms := List.mem_of_getElem? hm
      obtain ⟨xs, hox⟩ := hcs m hmm
      have hls := HS.out m hmm
      obtain ⟨p, v⟩ := m
      obtain ⟨lo, hi, is⟩ := p
      dsimp only at hox hls
      obtain ⟨ia, ic, rfl⟩ := owns_slice hox
      have e2 : wr.cell? ⟨g, k * 3 + 2, none⟩ = some (.slice ia is.length ic) := (how.cellAt (k * 3 + 2) (by have := how.1; omega)).trans (hys k _ hm)
      obtain ⟨y0, e0⟩ := own_some how (j := k * 3) (by omega)
      obtain ⟨y1, e1⟩ := own_some how (j := k * 3 + 1) (by omega)
      have f0 := fun j => how.frozenAt j
      have HM := Lib.hid hm; clear hm
      have HY := Lib.hid hys; clear hys
      have HC := Lib.hid hcs; clear hcs
      have HG := Lib.hid hg; clear hg
      have HW := Lib.hid how; clear how
      have HX := Lib.hid hox; clear hox
      obtain ⟨K1, hK1⟩ : ∃ K1 : Nat, K1 = K + 1 := ⟨_, rfl⟩
      obtain ⟨K2, hK2⟩ : ∃ K2 : Nat, K2 = K + 2 := ⟨_, rfl⟩
      have w1 : IntKind.i64.wrap ((K : Int) + 1) = (K1 : Int) := by rw [show (K : Int) + 1 = (K1 : Int) from by omega]; first | exact IntWalk.i64_in (by omega) (by omega) | exact IntWalk.i64_in _ (by omega) (by omega) | go_unwrap
      have w2 : IntKind.i64.wrap ((K1 : Int) + 1) = (K2 : Int) := by rw [show (K1 : Int) + 1 = (K2 : Int) from by omega]; first | exact IntWalk.i64_in (by omega) (by omega) | exact IntWalk.i64_in _ (by omega) (by omega) | go_unwrap
      have hKb2 : K2 ≤ 11000000000002 := by omega
      have HK2 := Lib.hid hK2; clear hK2
      have HK1 := Lib.hid hK1; clear hK1
      obtain ⟨ho', hg'⟩ := own_sets ([.int .i64 (K : Int), .int .i64 (K1 : Int)]) _ _ (k * 3) HW.out
      have HO' := Lib.hid ho'; clear ho'
      have HG' := Lib.hid hg'; clear hg'
      go_wp2_with fail
      have hgi : ∀ b, (some g : Option Nat) = some b → (Value.slice ia is.length ic).ownBlock ≠ some b := fun b hb => own_ne HW.out HX.out (by decide) (b := b) (by rw [← hb]; rfl)
      have hox2 := owns_chg HX.out (Chg.of_grownBy HG'.out) (fun b hb hF => hgi b hF hb)
      refine (markInsInsS ia is.length ic K2 xs B _ hox2 (by omega) (by omega)).mono ?_
      rintro e w3 ⟨rfl, o3, c3⟩
      have hnew : MInv w B N n cap (some ⟨g, 0, none⟩) ms w3 := by
        refine ⟨Chg.trans (Chg.trans HG.out (Chg.of_grownBy HG'.out) (fun _ _ h => h) (fun i _ h => ?_)) c3 (fun _ _ h => h) (fun i _ h => ?_), ⟨_, owns_chg HO'.out c3 (fun b hb hF => ?_), fun k' m' hm' => ?_⟩, fun m' hm' => ?_⟩
        · exact HB.out i (.inl (by rw [← h]; rfl))
        · exact HB.out i (.inr ⟨_, List.mem_of_getElem? HM.out, h⟩)
        · exact hgi b hb hF
        · rw [sets_get _ _ _ _ (by rw [HW.out.1]; simp only [List.length_cons, List.length_nil]; omega), if_neg (by simp only [List.length_cons, List.length_nil]; omega)]
          exact HY.out k' m' hm'
        · obtain ⟨xs', hx'⟩ := HC.out m' hm'
          have hx2 := owns_chg hx' (Chg.of_grownBy HG'.out) (fun b hb hF => own_ne HW.out hx' (by decide) (b := b) (by rw [← hF]; rfl) hb)
          exact own_mark hx2 hox2 o3 c3
      have HN := Lib.hid hnew
      clear hnew hgi hox2 o3 c3 e0 e1 e2 f0 HO' HG' HG HC HY HX
      go_wp2
      go_roundw
      case rel => exact ⟨k + 1, K2 + is.length * 8, by omega, by have := HK.out; have := HK2.out; omega, by go_num, rfl, HN.out⟩
      case measure => simp [intOf]; omega
    · have HG := Lib.hid hg; clear hg how hys hcs
      go_wp2
      go_ret
      exact ⟨⟨K, rfl, hKb⟩, HG.out⟩

theorem markPrgProgB (a : Option Addr) (n cap : Nat) (k0 : Nat) (B N : Nat) (ms : List (Prc × Value)) (w : World) (ho : OwnP w B (.slice a n cap) n ms) (hB : BlkP B N (.slice a n cap) ms) (hk0 : k0 ≤ 1000000) (hn : n ≤ 1048576) (hs : ∀ m, m ∈ ms → m.1.code.length ≤ 1048576) :
    Calls Tryz.prog 33 #[.agg #[.slice a n cap], .int .i64 k0] w fun e w' => ∃ K : Nat, e = .returned (.int .i64 K) ∧ K ≤ 11000000000000 ∧ Chg (fun b => B ≤ b ∧ b < N) w w' := by
  have C := markPrcProcSB a n cap k0 B N ms (w.alloc (.cells #[.slice a n cap] 25)) (ho.grew (grew_al (Below.refl _ _) _)) hB hk0 hn hs
  have HC := Lib.hid C; clear C ho hB hs
  go_enter Tryz.func33, Tryz.ntmps33
  go_wp2_with fail
  refine HC.out.mono ?_
  rintro e w1 ⟨⟨K, rfl, hK⟩, g1⟩
  have G1 := Lib.hid g1; clear g1
  go_wp2
  go_ret
  exact ⟨K, rfl, hK, (Chg.of_below (F := fun b => B ≤ b ∧ b < N) (grew_al (Below.refl _ _) _)).trans G1.out (fun _ _ h => h) (fun _ _ h => h)⟩
end Go.Proofs.YtpmfpgbpndobpaaGreat

/- States copied and measured by the law's glue. No condition. -/
namespace Go.Proofs.YtpmfpgbpndobpaaGreat
open Go.RowKit Go.ChangeShapes Go.WideShapes Go.Deep
set_option linter.unusedVariables false
set_option linter.unusedSimpArgs false
attribute [local go_sem] ext_cell ext_frozen ext_lt ext_le ext_le1 lt_s2 lt_s3 lt_s4 lt_s5 lt_s6 ext_lt1 ext_lt2 ext_lt3

set_option maxHeartbeats 2000000 in
theorem toItvItvS (a : Option Addr) (n cap : Nat) (xs : List Itv) (w : World) (hr : RdL EItv 2 w a n xs) (hm : n ≤ 1048576) :
    Calls Tryz.prog 74 #[.slice a n cap] w fun e w' => ∃ v, e = .returned v ∧ w'.ownsRow w.heap.size 31 2 v n (xs.flatMap Itv.cells) ∧ Grew w w' := by
  have hl := hr.len
  obtain ⟨i0, hi, hz0, hz1, hz2⟩ := info_parts itvInfo
  obtain ⟨w1, hmk, hown, hgr⟩ := run_make_full (P := Tryz.prog) w w.heap.size 29 31 i0 (.agg #[.int .i64 0, .int .i64 0]) 2 Tryz.underlying29 hi hz0 hz1 .i64 .i64 n (by rw [hz2]; omega) (by unfold maxLen; omega) (Nat.le_refl _)
  have HB := Lib.hid (Below.of_grownBy hgr (Nat.le_refl _) (fun k e => nomatch e)); clear hgr
  have HR := Lib.hid hr; clear hr
  have HL := Lib.hid hl; clear hl
  have HO := Lib.hid hown; clear hown
  clear hi hz0 hz1 hz2
  go_enter Tryz.func74, Tryz.ntmps74
  go_wp2
  clear hmk
  go_loopw [4] (fun i wr => ∃ k : Nat, k ≤ n ∧ i = .int .i64 k ∧ Grew w wr ∧ ∃ ys, wr.ownsRow w.heap.size 31 2 (.slice (some ⟨w.heap.size, 0, none⟩) n n) n ys ∧ ∀ j, j < (xs.take k).length * 2 → ys[j]? = ((xs.take k).flatMap Itv.cells)[j]?) (fun i _ => n - (intOf i).toNat)
  case atStart => exact ⟨0, Nat.zero_le _, rfl, HB.out, _, HO.out, fun j hj => absurd hj (by simp)⟩
  case round =>
    obtain ⟨k, hk, rfl, hg, ys, how, hys⟩ := hrel
    by_cases hlt : k < n
    · obtain ⟨b, off, lo, hi, rfl, hx, c0, c1, hb⟩ := rdItv_at (HR.out.grew staysItv hg) hlt
      have HX := Lib.hid hx; clear hx
      have HH := Lib.hid hys; clear hys
      have HG := Lib.hid hg; clear hg
      have HW := Lib.hid how; clear how
      go_wp2_with fail
      ((with_reducible refine (toItvItv ⟨lo, hi⟩ _).mono ?_); rintro e w2 ⟨rfl, g2⟩)
      have HW2 := Lib.hid (owns_grew HW.out g2)
      obtain ⟨y0, e0⟩ := own_some HW2.out (j := k * 2) (by omega)
      obtain ⟨y1, e1⟩ := own_some HW2.out (j := k * 2 + 1) (by omega)
      have f0 := fun j => HW2.out.frozenAt j
      have G2 := Lib.hid (grew_tr HG.out g2); clear g2
      clear c0 c1
      go_wp2
      go_roundw
      case rel =>
        obtain ⟨ho', hg'⟩ := own_sets (Itv.cells ⟨lo, hi⟩) _ _ (k * 2) HW2.out
        have hkl : (xs.take k).length = k := by rw [List.length_take]; have := HL.out; omega
        have hst := pre_step (f := Itv.cells) itv_len ⟨lo, hi⟩ HW2.out.1 (by rw [hkl]; omega) HH.out
        rw [hkl, ← take_get HX.out] at hst
        exact ⟨k + 1, by omega, by go_num, G2.out.grown hg' G2.out.size (fun j hj => by obtain rfl := Option.some.inj hj; exact Nat.le_refl _), _, ho', hst⟩
      case measure => simp [intOf]; omega
    · have hfin : ys = xs.flatMap Itv.cells := by
        have h2 := HL.out
        rw [List.take_of_length_le (by omega)] at hys
        exact pre_all itv_len how.1 h2 hys
      subst hfin
      clear hys
      have HO := Lib.hid how; clear how
      have HG := Lib.hid hg; clear hg
      go_wp2
      go_ret
      exact ⟨_, rfl, HO.out, HG.out⟩

theorem szItvItvS (a : Option Addr) (n cap : Nat) (left : Int) (w : World) (h0 : 0 ≤ left) (h1 : left ≤ 1048576) (hn : n ≤ 9223372036854775807) :
    Calls Tryz.prog 69 #[.slice a n cap, .int .i64 left] w fun e w' => e = .returned (.int .i64 (if left < n then -1 else left - n)) ∧ w = w' := by
  by_cases h : left < n
  · have h2 : left - n < 0 := by omega
    rw [if_pos h]
    clear h
    go_enter Tryz.func69, Tryz.ntmps69
    go_wp2
    go_ret
    exact ⟨rfl, rfl⟩
  · have h2 : ¬ left - n < 0 := by omega
    have h3 : 0 ≤ left - n := by omega
    rw [if_neg h]
    clear h
    go_enter Tryz.func69, Tryz.ntmps69
    go_wp2
    go_ret
    exact ⟨rfl, rfl⟩

theorem szAbsState (on : Bool) (a : Option Addr) (n c : Nat) (lo hi left : Int) (w : World) (h0 : 0 ≤ left) (h1 : left ≤ 1048576) (hn : n ≤ 9223372036854775807) :
    Calls Tryz.prog 23 #[.agg #[.bool on, .slice a n c, .int .i64 lo, .int .i64 hi], .int .i64 left] w fun e w' => e = .returned (.int .i64 (if left < n then -1 else left - n)) ∧ Grew w w' := by
  have C := fun W => szItvItvS a n c left W h0 h1 hn
  by_cases h : left < n
  · rw [if_pos h] at C ⊢
    have HC := Lib.hid C; clear C h
    go_enter Tryz.func23, Tryz.ntmps23
    go_wp2_with fail
    refine (HC.out _).mono ?_
    rintro e w1 ⟨rfl, rfl⟩
    go_wp2
    go_ret
    exact ⟨rfl, gr⟩
  · rw [if_neg h] at C ⊢
    have h2 : ¬ left - n < 0 := by omega
    have HC := Lib.hid C; clear C h
    go_enter Tryz.func23, Tryz.ntmps23
    go_wp2_with fail
    refine (HC.out _).mono ?_
    rintro e w1 ⟨rfl, rfl⟩
    go_wp2
    go_ret
    exact ⟨rfl, gr⟩
set_option maxHeartbeats 2000000 in
/-- A copy of a state. -/
theorem toAbsState (on : Bool) (a : Option Addr) (n c : Nat) (xs : List Itv) (lo hi : Int) (w : World) (hr : RdL EItv 2 w a n xs) (hm : n ≤ 1048576) :
    Calls Tryz.prog 28 #[.agg #[.bool on, .slice a n c, .int .i64 lo, .int .i64 hi]] w fun e w' => ∃ a' c', e = .returned (.agg #[.bool on, .slice a' n c', .int .i64 lo, .int .i64 hi]) ∧ w'.ownsRow w.heap.size 31 2 (.slice a' n c') n (xs.flatMap Itv.cells) ∧ Grew w w' := by
  have HT := Lib.hid (fun W (g : Grew w W) => toItvItvS a n c xs W (hr.grew staysItv g) hm)
  have HI := Lib.hid (fun W => toItvItv ⟨lo, hi⟩ W)
  clear hr
  go_enter Tryz.func28, Tryz.ntmps28
  go_wp2_with fail
  refine (HT.out _ (gr)).mono ?_
  rintro e w1 ⟨v, rfl, ho, g1⟩
  obtain ⟨a', c', rfl⟩ := owns_slice ho
  have hG : Grew w w1 := grew_tr (gr) g1
  have p2 : w1.cell? ⟨w.heap.size, 2, none⟩ = some (.int .i64 lo) := (g1.cell (p := ⟨w.heap.size, 2, none⟩) (by simp; omega)).trans (by simp [go_sem])
  have p3 : w1.cell? ⟨w.heap.size, 3, none⟩ = some (.int .i64 hi) := (g1.cell (p := ⟨w.heap.size, 3, none⟩) (by simp; omega)).trans (by simp [go_sem])
  have Y4 : Blk w1 (w.heap.size + 1) 33 #[.bool false, .slice none 0 0, .int .i64 0, .int .i64 0] := ((by (repeat (first | with_reducible assumption | with_reducible exact Blk.new' (by simp only [World.size_alloc, World.size_drew, World.size_setCell]) | with_reducible refine Blk.alloc ?_ _ | with_reducible refine Blk.grew ?_ (grew_d (Below.refl _ _)) | with_reducible refine Blk.far ?_ (by first | assumption | (simp only; omega)) _)) : Blk (((w.alloc (.cells #[.bool on, .slice a n c, .int .i64 lo, .int .i64 hi] 70)).alloc (.cells #[.bool false, .slice none 0 0, .int .i64 0, .int .i64 0] 33)).alloc (.cells #[.bool on, .slice none 0 0, .int .i64 0, .int .i64 0] 33)) (w.heap.size + 1) 33 #[.bool false, .slice none 0 0, .int .i64 0, .int .i64 0]).grew g1)
  have Z4 : Blk w1 (w.heap.size + 1 + 1) 33 #[.bool on, .slice none 0 0, .int .i64 0, .int .i64 0] := ((by (repeat (first | with_reducible assumption | with_reducible exact Blk.new' (by simp only [World.size_alloc, World.size_drew, World.size_setCell]) | with_reducible refine Blk.alloc ?_ _ | with_reducible refine Blk.grew ?_ (grew_d (Below.refl _ _)) | with_reducible refine Blk.far ?_ (by first | assumption | (simp only; omega)) _)) : Blk (((w.alloc (.cells #[.bool on, .slice a n c, .int .i64 lo, .int .i64 hi] 70)).alloc (.cells #[.bool false, .slice none 0 0, .int .i64 0, .int .i64 0] 33)).alloc (.cells #[.bool on, .slice none 0 0, .int .i64 0, .int .i64 0] 33)) (w.heap.size + 1 + 1) 33 #[.bool on, .slice none 0 0, .int .i64 0, .int .i64 0]).grew g1)
  have zf := fun j => Z4.frozen j
  have zl := Z4.lt
  have HO := Lib.hid ho
  have HY := Lib.hid Y4
  have HZ := Lib.hid Z4
  have HG := Lib.hid hG
  have z0 := Z4.cell 0
  have z1 := Z4.cell 1
  have z2 := Z4.cell 2
  have z3 := Z4.cell 3
  simp only [List.getElem?_toArray, List.getElem?_cons_zero, List.getElem?_cons_succ] at z0 z1 z2 z3
  clear ho g1 hG Z4 Y4
  go_wp2_with fail
  refine (HI.out _).mono ?_
  rintro e w2 ⟨rfl, g2⟩
  have HZ2 := (HZ.out.set_ 1 (.slice a' n c')).grew g2
  have HY2 := (HY.out.far (p := ⟨w.heap.size + 1 + 1, 1, none⟩) (by first | omega | (simp only; omega)) (.slice a' n c')).grew g2
  have HO2 := Lib.hid (owns_grew (owns_set HO.out (by simp) (.slice a' n c')) g2)
  have HG2 := Lib.hid (grew_tr (grew_set HG.out (by first | omega | (simp only; omega)) (.slice a' n c')) g2)
  have y0 := HY2.cell 0
  have y1 := HY2.cell 1
  have y2 := HY2.cell 2
  have y3 := HY2.cell 3
  have yf := fun j => HY2.frozen j
  have yl := HY2.lt
  have z0 := HZ2.cell 0
  have z1 := HZ2.cell 1
  have z2 := HZ2.cell 2
  have z3 := HZ2.cell 3
  have zf := fun j => HZ2.frozen j
  have zl := HZ2.lt
  simp only [List.getElem?_toArray, List.getElem?_cons_zero, List.getElem?_cons_succ, Array.set!_eq_setIfInBounds, List.setIfInBounds_toArray, List.set_cons_succ, List.set_cons_zero] at z0 z1 z2 z3 y0 y1 y2 y3
  clear HY HZ HO HG HZ2 HY2 g2
  go_wp2
  refine bodyPost_ret (by simp [results, Tryz.results28, go_sem, y0, y1, y2, y3, yl]; try rfl) rfl ?_
  refine ⟨a', c', rfl, owns_mono (owns_set (owns_set (owns_set (owns_set (owns_set (owns_set HO2.out (by first | omega | (simp; try omega)) _) (by first | omega | (simp; try omega)) _) (by first | omega | (simp; try omega)) _) (by first | omega | (simp; try omega)) _) (by first | omega | (simp; try omega)) _) (by first | omega | (simp; try omega)) _) (by simp; try omega), (grew_set (grew_set (grew_set (grew_set (grew_set (grew_set HG2.out (by first | omega | (simp only; omega)) _) (by first | omega | (simp only; omega)) _) (by first | omega | (simp only; omega)) _) (by first | omega | (simp only; omega)) _) (by first | omega | (simp only; omega)) _) (by first | omega | (simp only; omega)) _)⟩
end Go.Proofs.YtpmfpgbpndobpaaGreat
