/- Lemmas and walks of this proof, some texts one behind the other. No condition. -/
import Derived.Test.YtnjoofpllhbccaaStI
set_option linter.unusedSimpArgs false
set_option linter.unusedVariables false
/- One state within another one: the program's side, for states that are ok. No condition. -/
namespace Go.Proofs.Ytnjoofpllhbccaa
open Go.RowKit
set_option linter.unusedVariables false
set_option linter.unusedSimpArgs false
attribute [local go_sem] ext_cell ext_frozen ext_lt ext_le ext_le1 lt_s2 lt_s3 lt_s4 lt_s5 lt_s6 ext_lt1 ext_lt2 ext_lt3

def inI (x y : Itv) : Bool := decide (y.lo ≤ x.lo) && decide (x.hi ≤ y.hi)
theorem implBothOk (a b : Itv) (w : World) (ha : itvB a = true) (hb : itvB b = true) :
    Calls Try.prog 128 #[.agg #[.int .i64 a.lo, .int .i64 a.hi], .agg #[.int .i64 b.lo, .int .i64 b.hi]] w fun e w' => e = .returned (.bool true) ∧ Grew w w' := by
  have C := fun w => itvOk a.lo a.hi w
  have D := fun w => itvOk b.lo b.hi w
  rw [itvB] at ha hb
  rw [ha] at C
  rw [hb] at D
  have HC := Lib.hid C
  have HD := Lib.hid D
  clear C D ha hb
  obtain ⟨al, ah⟩ := a
  obtain ⟨bl, bh⟩ := b
  simp only at HC HD ⊢
  go_enter Try.func128, Try.ntmps128
  go_wp2_with (first | ((with_reducible refine (HC.out _).mono ?_); rintro e w' ⟨rfl, g'⟩; (first | obtain ⟨y, rfl⟩ := ext_cold g' | obtain ⟨y, rfl⟩ := ext_col g' | obtain ⟨y, rfl⟩ := ext_of g'); clear g') | ((with_reducible refine (HD.out _).mono ?_); rintro e w' ⟨rfl, g'⟩; (first | obtain ⟨z, rfl⟩ := ext_cold g' | obtain ⟨z, rfl⟩ := ext_col g' | obtain ⟨z, rfl⟩ := ext_of g'); clear g'))
  go_ret
  refine ⟨by simp, ?_⟩
  repeat (first | with_reducible exact Below.refl _ _ | with_reducible assumption | with_reducible apply grew_ext | with_reducible apply grew_al | with_reducible apply grew_dn | with_reducible apply grew_d | (with_reducible refine grew_set ?_ (by first | omega | (repeat (first | with_reducible exact Nat.le_refl _ | with_reducible apply le_pl | with_reducible apply le_ext | with_reducible apply le_al))) _))
theorem implItvIn (a b : Itv) (w : World) (ha : itvB a = true) (hb : itvB b = true) :
    Calls Try.prog 129 #[.agg #[.int .i64 a.lo, .int .i64 a.hi], .agg #[.int .i64 b.lo, .int .i64 b.hi]] w fun e w' => e = .returned (.bool (inI a b)) ∧ Grew w w' := by
  have HC := Lib.hid (fun W => implBothOk a b W ha hb)
  clear ha hb
  obtain ⟨al, ah⟩ := a
  obtain ⟨bl, bh⟩ := b
  simp only at HC ⊢
  by_cases h1 : bl ≤ al
  · by_cases h2 : ah ≤ bh
    all_goals
      go_enter Try.func129, Try.ntmps129
      go_wp2_with ((with_reducible refine (HC.out _).mono ?_); rintro e w' ⟨rfl, g'⟩; (first | obtain ⟨y, rfl⟩ := ext_cold g' | obtain ⟨y, rfl⟩ := ext_col g' | obtain ⟨y, rfl⟩ := ext_of g'); clear g')
      go_ret
      refine ⟨by simp [inI, h1, h2], ?_⟩
      repeat (first | with_reducible exact Below.refl _ _ | with_reducible assumption | with_reducible apply grew_ext | with_reducible apply grew_al | with_reducible apply grew_dn | with_reducible apply grew_d | (with_reducible refine grew_set ?_ (by first | omega | (repeat (first | with_reducible exact Nat.le_refl _ | with_reducible apply le_pl | with_reducible apply le_ext | with_reducible apply le_al))) _))
  · go_enter Try.func129, Try.ntmps129
    go_wp2_with ((with_reducible refine (HC.out _).mono ?_); rintro e w' ⟨rfl, g'⟩; (first | obtain ⟨y, rfl⟩ := ext_cold g' | obtain ⟨y, rfl⟩ := ext_col g' | obtain ⟨y, rfl⟩ := ext_of g'); clear g')
    go_ret
    refine ⟨by (simp [inI]; omega), ?_⟩
    repeat (first | with_reducible exact Below.refl _ _ | with_reducible assumption | with_reducible apply grew_ext | with_reducible apply grew_al | with_reducible apply grew_dn | with_reducible apply grew_d | (with_reducible refine grew_set ?_ (by first | omega | (repeat (first | with_reducible exact Nat.le_refl _ | with_reducible apply le_pl | with_reducible apply le_ext | with_reducible apply le_al))) _))
/-- The cells of a state of four. -/
theorem st_cell {w : World} {b : Nat} {xs : List Itv} {lo hi : Int} (h : Blk w b 104 (stC xs lo hi)) (h4 : xs.length = 4) {k : Nat} {x : Itv} (hx : xs[k]? = some x) : w.cell? ⟨b, k * 2, none⟩ = some (.int .i64 x.lo) ∧ w.cell? ⟨b, k * 2 + 1, none⟩ = some (.int .i64 x.hi) := by
  match xs, h4 with
  | [x0, x1, x2, x3], _ =>
    match k, hx with
    | 0, hx => cases hx; exact ⟨h.cell 0, h.cell 1⟩
    | 1, hx => cases hx; exact ⟨h.cell 2, h.cell 3⟩
    | 2, hx => cases hx; exact ⟨h.cell 4, h.cell 5⟩
    | 3, hx => cases hx; exact ⟨h.cell 6, h.cell 7⟩
theorem st_end {w : World} {b : Nat} {xs : List Itv} {lo hi : Int} (h : Blk w b 104 (stC xs lo hi)) (h4 : xs.length = 4) : w.cell? ⟨b, 8, none⟩ = some (.int .i64 lo) ∧ w.cell? ⟨b, 9, none⟩ = some (.int .i64 hi) := by
  match xs, h4 with
  | [x0, x1, x2, x3], _ => exact ⟨h.cell 8, h.cell 9⟩
def inS (xs ys : List Itv) (x y : Itv) : Bool := (xs.zip ys).all (fun p => inI p.1 p.2) && inI x y
set_option maxHeartbeats 4000000 in
theorem implInState (b1 b2 : Nat) (xs ys : List Itv) (lo hi lo' hi' : Int) (w : World) (h1 : Blk w b1 104 (stC xs lo hi)) (h2 : Blk w b2 104 (stC ys lo' hi')) (o1 : stOkB true xs lo hi = true) (o2 : stOkB true ys lo' hi' = true) :
    Calls Try.prog 87 #[.pointer (some ⟨b1, 0, none⟩), .pointer (some ⟨b2, 0, none⟩)] w fun e w' => e = .returned (.bool (inS xs ys ⟨lo, hi⟩ ⟨lo', hi'⟩)) ∧ Grew w w' := by
  have HA1 := Lib.hid (itvB_all o1)
  have HA2 := Lib.hid (itvB_all o2)
  have hc1 := (st_four o1).1
  have hc2 := (st_four o2).1
  have HL1 : Hid (xs.length = 4) := Lib.hid (by obtain ⟨_, x0, x1, x2, x3, rfl, _⟩ := st_four o1; rfl)
  have HL2 : Hid (ys.length = 4) := Lib.hid (by obtain ⟨_, x0, x1, x2, x3, rfl, _⟩ := st_four o2; rfl)
  have HE := Lib.hid (fun W => implItvIn ⟨lo, hi⟩ ⟨lo', hi'⟩ W hc1 hc2)
  have HB1 := Lib.hid h1
  have HB2 := Lib.hid h2
  clear o1 o2 hc1 hc2 h1 h2
  go_enter Try.func87, Try.ntmps87
  go_wp2
  go_loopw [14] (fun i wr => ∃ k : Nat, k ≤ 4 ∧ i = .int .i64 k ∧ Grew w wr ∧ ∀ p, p ∈ (xs.zip ys).take k → inI p.1 p.2 = true) (fun i _ => 4 - (intOf i).toNat)
  case atStart => exact ⟨0, Nat.zero_le _, rfl, Below.refl _ _, by simp⟩
  case round =>
    obtain ⟨k, hk, rfl, hg, hall⟩ := hrel
    have HG := Lib.hid hg
    have HA := Lib.hid hall
    have l1 : b1 < wr.heap.size := (HB1.out.grew hg).lt
    have l2 : b2 < wr.heap.size := (HB2.out.grew hg).lt
    clear hall
    by_cases hlt : k < 4
    · obtain ⟨x, hx⟩ : ∃ x, xs[k]? = some x := ⟨xs[k]'(by rw [HL1.out]; exact hlt), List.getElem?_eq_getElem _⟩
      obtain ⟨y, hy⟩ : ∃ y, ys[k]? = some y := ⟨ys[k]'(by rw [HL2.out]; exact hlt), List.getElem?_eq_getElem _⟩
      obtain ⟨c0, c1⟩ := st_cell (HB1.out.grew hg) HL1.out hx
      obtain ⟨d0, d1⟩ := st_cell (HB2.out.grew hg) HL2.out hy
      have hz : (xs.zip ys)[k]? = some (x, y) := by rw [List.getElem?_zip_eq_some]; exact ⟨hx, hy⟩
      have HZ := Lib.hid hz
      have C := fun W => implItvIn x y W (HA1.out x (List.mem_of_getElem? hx)) (HA2.out y (List.mem_of_getElem? hy))
      obtain ⟨xl, xh⟩ := x
      obtain ⟨yl, yh⟩ := y
      simp only at C c0 c1 d0 d1
      clear hx hy hz hg
      cases hq : inI ⟨xl, xh⟩ ⟨yl, yh⟩
      · rw [hq] at C
        have HCk := Lib.hid C
        have HF : Hid (inS xs ys ⟨lo, hi⟩ ⟨lo', hi'⟩ = false) := Lib.hid (by
          rw [inS, Bool.and_eq_false_iff]
          left
          rw [List.all_eq_false]
          exact ⟨_, List.mem_of_getElem? HZ.out, by simp [hq]⟩)
        clear C hq
        go_wp2_with fail
        first | refine wp_region_ext2 (by kernel_rfl) (by kernel_rfl) ?_ | refine wp_region_ext (by kernel_rfl) (by kernel_rfl) ?_
        repeat (go_big_quiet_step ((first | (with_reducible exact ext_grow (HCk.out _)))))
        refine wpQuiet_nil ?_
        intro _ hw'
        obtain ⟨u, hw''⟩ := hw'
        subst hw''
        have HG2 := Lib.hid (show Grew w (ext wr u) from grew_tr HG.out (by repeat (first | with_reducible exact Below.refl _ _ | with_reducible assumption | with_reducible apply grew_ext | with_reducible apply grew_al | with_reducible apply grew_dn | with_reducible apply grew_d | (with_reducible refine grew_set ?_ (by first | omega | (repeat (first | with_reducible exact Nat.le_refl _ | with_reducible apply le_pl | with_reducible apply le_ext | with_reducible apply le_al))) _))))
        clear c0 c1 d0 d1 l1 l2
        go_wp2
        go_ret
        rw [HF.out]
        exact ⟨rfl, HG2.out⟩
      · rw [hq] at C
        have HCk := Lib.hid C
        have HQ := Lib.hid hq
        clear C hq
        go_wp2_with fail
        first | refine wp_region_ext2 (by kernel_rfl) (by kernel_rfl) ?_ | refine wp_region_ext (by kernel_rfl) (by kernel_rfl) ?_
        repeat (go_big_quiet_step ((first | (with_reducible exact ext_grow (HCk.out _)))))
        refine wpQuiet_nil ?_
        intro _ hw'
        obtain ⟨u, hw''⟩ := hw'
        subst hw''
        have HG2 := Lib.hid (show Grew w (ext wr u) from grew_tr HG.out (by repeat (first | with_reducible exact Below.refl _ _ | with_reducible assumption | with_reducible apply grew_ext | with_reducible apply grew_al | with_reducible apply grew_dn | with_reducible apply grew_d | (with_reducible refine grew_set ?_ (by first | omega | (repeat (first | with_reducible exact Nat.le_refl _ | with_reducible apply le_pl | with_reducible apply le_ext | with_reducible apply le_al))) _))))
        clear c0 c1 d0 d1 l1 l2
        go_wp2
        go_roundw
        case rel =>
          refine ⟨k + 1, by omega, by go_num, HG2.out, fun p hp => ?_⟩
          rw [take_get HZ.out] at hp
          rcases List.mem_append.1 hp with hp | hp
          · exact HA.out p hp
          · rw [List.mem_singleton.1 hp]
            exact HQ.out
        case measure => simp [intOf]; omega
    · obtain rfl : k = 4 := by omega
      have HF : Hid (inS xs ys ⟨lo, hi⟩ ⟨lo', hi'⟩ = inI ⟨lo, hi⟩ ⟨lo', hi'⟩) := Lib.hid (by
        rw [inS, show (xs.zip ys).all (fun p => inI p.1 p.2) = true from ?_, Bool.true_and]
        rw [List.all_eq_true]
        exact fun p hp => HA.out p (by rw [List.take_of_length_le (by rw [List.length_zip, HL1.out, HL2.out]; exact Nat.le_refl _)]; exact hp))
      obtain ⟨c0, c1⟩ := st_end (HB1.out.grew hg) HL1.out
      obtain ⟨d0, d1⟩ := st_end (HB2.out.grew hg) HL2.out
      have HCk := HE
      clear hg
      go_wp2_with fail
      first | refine wp_region_ext2 (by kernel_rfl) (by kernel_rfl) ?_ | refine wp_region_ext (by kernel_rfl) (by kernel_rfl) ?_
      repeat (go_big_quiet_step ((first | (with_reducible exact ext_grow (HCk.out _)))))
      refine wpQuiet_nil ?_
      intro _ hw'
      obtain ⟨u, hw''⟩ := hw'
      subst hw''
      have HG2 := Lib.hid (show Grew w (ext wr u) from grew_tr HG.out (by repeat (first | with_reducible exact Below.refl _ _ | with_reducible assumption | with_reducible apply grew_ext | with_reducible apply grew_al | with_reducible apply grew_dn | with_reducible apply grew_d | (with_reducible refine grew_set ?_ (by first | omega | (repeat (first | with_reducible exact Nat.le_refl _ | with_reducible apply le_pl | with_reducible apply le_ext | with_reducible apply le_al))) _))))
      clear c0 c1 d0 d1 l1 l2
      go_wp2
      go_ret
      rw [HF.out]
      exact ⟨rfl, HG2.out⟩
theorem implInStateN (b1 : Nat) (w : World) :
    Calls Try.prog 87 #[.pointer (some ⟨b1, 0, none⟩), .pointer none] w fun e w' => e = .returned (.bool false) ∧ Grew w w' := by
  go_enter Try.func87, Try.ntmps87
  go_wp2
  go_ret
  exact ⟨rfl, Below.refl _ _⟩
/-- AbsIn of a state that is on and ok, and one that is ok. -/
theorem implAbsIn (a : Option Addr) (n c : Nat) (xs : List Itv) (lo hi : Int) (on' : Bool) (a' : Option Addr) (n' c' : Nat) (ys : List Itv) (lo' hi' : Int) (w : World) (hr : RdL EItv 2 w a n xs) (hr' : RdL EItv 2 w a' n' ys) (hn : n ≤ 9223372036854775807) (hn' : n' ≤ 9223372036854775807) (hc : n ≤ c) (hc' : n' ≤ c')
    (o1 : stOkB true xs lo hi = true) (o2 : stOkB on' ys lo' hi' = true) :
    Calls Try.prog 26 #[.agg #[.bool true, .slice a n c, .int .i64 lo, .int .i64 hi], .agg #[.bool on', .slice a' n' c', .int .i64 lo', .int .i64 hi']] w fun e w' => e = .returned (.bool (on' && inS xs ys ⟨lo, hi⟩ ⟨lo', hi'⟩)) ∧ Grew w w' := by
  have HC := Lib.hid (fun W (h : Grew w W) => implReadState true a n c xs lo hi W (hr.grew staysItv h) hn hc)
  have HD := Lib.hid (fun W (h : Grew w W) => implReadState on' a' n' c' ys lo' hi' W (hr'.grew staysItv h) hn' hc')
  have HO1 := Lib.hid o1
  have HO2 := Lib.hid o2
  clear hr hr' o1 o2
  go_enter Try.func26, Try.ntmps26
  go_wp2_with fail
  refine (HC.out _ (by repeat (first | with_reducible exact Below.refl _ _ | with_reducible assumption | with_reducible apply grew_ext | with_reducible apply grew_al | with_reducible apply grew_dn | with_reducible apply grew_d | (with_reducible refine grew_set ?_ (by first | omega | (repeat (first | with_reducible exact Nat.le_refl _ | with_reducible apply le_pl | with_reducible apply le_ext | with_reducible apply le_al))) _)))).mono ?_
  rintro e w1 ⟨g1, ⟨h, rfl⟩ | ⟨h, b1, rfl, hb1, h1⟩⟩
  · rw [HO1.out] at h
    cases h
  have hG1 : Grew w w1 := grew_tr (by repeat (first | with_reducible exact Below.refl _ _ | with_reducible assumption | with_reducible apply grew_ext | with_reducible apply grew_al | with_reducible apply grew_dn | with_reducible apply grew_d | (with_reducible refine grew_set ?_ (by first | omega | (repeat (first | with_reducible exact Nat.le_refl _ | with_reducible apply le_pl | with_reducible apply le_ext | with_reducible apply le_al))) _))) g1
  have q0 : w1.cell? ⟨w.heap.size + 1, 0, none⟩ = some (.bool on') := (g1.cell (p := ⟨w.heap.size + 1, 0, none⟩) (by simp)).trans (by simp [go_sem])
  have q1 : w1.cell? ⟨w.heap.size + 1, 1, none⟩ = some (.slice a' n' c') := (g1.cell (p := ⟨w.heap.size + 1, 1, none⟩) (by simp)).trans (by simp [go_sem])
  have q2 : w1.cell? ⟨w.heap.size + 1, 2, none⟩ = some (.int .i64 lo') := (g1.cell (p := ⟨w.heap.size + 1, 2, none⟩) (by simp)).trans (by simp [go_sem])
  have q3 : w1.cell? ⟨w.heap.size + 1, 3, none⟩ = some (.int .i64 hi') := (g1.cell (p := ⟨w.heap.size + 1, 3, none⟩) (by simp)).trans (by simp [go_sem])
  have HG1 := Lib.hid hG1
  have H1 := Lib.hid h1
  clear h hb1 h1 g1 hG1
  go_wp2_with fail
  refine (HD.out _ HG1.out).mono ?_
  rintro e w2 ⟨g2, ⟨h, rfl⟩ | ⟨h, b2, rfl, hb2, h2⟩⟩
  · rw [HO2.out] at h ⊢
    simp only [Bool.true_and] at h
    subst h
    have HG2 := Lib.hid (grew_tr HG1.out g2)
    have HS := Lib.hid (fun W => implInStateN b1 W)
    clear q0 q1 q2 q3 g2
    go_wp2_with ((with_reducible refine (HS.out _).mono ?_); rintro e w' ⟨rfl, g'⟩; (first | obtain ⟨y, rfl⟩ := ext_cold g' | obtain ⟨y, rfl⟩ := ext_col g' | obtain ⟨y, rfl⟩ := ext_of g'); clear g')
    go_ret
    refine ⟨by simp, ?_⟩
    have hg := HG2.out
    repeat (first | with_reducible exact Below.refl _ _ | with_reducible assumption | with_reducible apply grew_ext | with_reducible apply grew_al | with_reducible apply grew_dn | with_reducible apply grew_d | (with_reducible refine grew_set ?_ (by first | omega | (repeat (first | with_reducible exact Nat.le_refl _ | with_reducible apply le_pl | with_reducible apply le_ext | with_reducible apply le_al))) _))
  · rw [Bool.and_eq_true] at h
    have hon := h.2
    subst hon
    have HG2 := Lib.hid (grew_tr HG1.out g2)
    have HS := Lib.hid (implInState b1 b2 xs ys lo hi lo' hi' w2 (H1.out.grew g2) h2 HO1.out HO2.out)
    clear q0 q1 q2 q3 g2 h hb2 h2
    go_wp2_with fail
    refine HS.out.mono ?_
    rintro e w3 ⟨rfl, g3⟩
    have HG3 := Lib.hid (grew_tr HG2.out g3)
    clear g3
    go_wp2
    go_ret
    exact ⟨by simp, HG3.out⟩
end Go.Proofs.Ytnjoofpllhbccaa

/- The join of two states that are ok: the program's side. No condition. -/
namespace Go.Proofs.Ytnjoofpllhbccaa
open Go.RowKit
set_option linter.unusedVariables false
set_option linter.unusedSimpArgs false
attribute [local go_sem] ext_cell ext_frozen ext_lt ext_le ext_le1 lt_s2 lt_s3 lt_s4 lt_s5 lt_s6 ext_lt1 ext_lt2 ext_lt3

def joinI (x y : Itv) : Itv := ⟨min x.lo y.lo, max x.hi y.hi⟩
set_option maxHeartbeats 1000000 in
theorem implItvJoin (a b : Itv) (w : World) (ha : itvB a = true) (hb : itvB b = true) :
    Calls Try.prog 86 #[.agg #[.int .i64 a.lo, .int .i64 a.hi], .agg #[.int .i64 b.lo, .int .i64 b.hi]] w fun e w' => e = .returned (.agg #[.int .i64 (joinI a b).lo, .int .i64 (joinI a b).hi]) ∧ Grew w w' := by
  have HC := Lib.hid (fun W => implBothOk a b W ha hb)
  clear ha hb
  obtain ⟨al, ah⟩ := a
  obtain ⟨bl, bh⟩ := b
  simp only [joinI] at HC ⊢
  go_enter Try.func86, Try.ntmps86
  go_wp2_with ((with_reducible refine (HC.out _).mono ?_); rintro e w' ⟨rfl, g'⟩; (first | obtain ⟨y, rfl⟩ := ext_cold g' | obtain ⟨y, rfl⟩ := ext_col g' | obtain ⟨y, rfl⟩ := ext_of g'); clear g')
  all_goals
    go_returns
    refine ⟨by (simp; try omega), ?_⟩
    repeat (first | with_reducible exact Below.refl _ _ | with_reducible assumption | with_reducible apply grew_ext | with_reducible apply grew_al | with_reducible apply grew_dn | with_reducible apply grew_d | (with_reducible refine grew_set ?_ (by first | omega | (repeat (first | with_reducible exact Nat.le_refl _ | with_reducible apply le_pl | with_reducible apply le_ext | with_reducible apply le_al))) _))
theorem st_set {w : World} {g : Nat} {zs : List Itv} {lo hi : Int} (h : Blk w g 104 (stC zs lo hi)) (h4 : zs.length = 4) {k : Nat} (hk : k < 4) (a b : Int) :
    Blk ((w.setCell ⟨g, k * 2, none⟩ (.int .i64 a)).setCell ⟨g, k * 2 + 1, none⟩ (.int .i64 b)) g 104 (stC (zs.set k ⟨a, b⟩) lo hi) := by
  match zs, h4 with
  | [x0, x1, x2, x3], _ =>
    match k, hk with
    | 0, _ => exact (h.set_ 0 _).set_ 1 _
    | 1, _ => exact (h.set_ 2 _).set_ 3 _
    | 2, _ => exact (h.set_ 4 _).set_ 5 _
    | 3, _ => exact (h.set_ 6 _).set_ 7 _
set_option maxRecDepth 100000 in
set_option maxHeartbeats 4000000 in
theorem implMix (b1 b2 p : Nat) (xs ys : List Itv) (lo hi lo' hi' : Int) (w : World) (h1 : Blk w b1 104 (stC xs lo hi)) (h2 : Blk w b2 104 (stC ys lo' hi')) (o1 : stOkB true xs lo hi = true) (o2 : stOkB true ys lo' hi' = true)
    (hp : w.cell? ⟨p, 0, none⟩ = some (.func (.func 86) #[] #[])) :
    Calls Try.prog 156 #[.pointer (some ⟨b1, 0, none⟩), .pointer (some ⟨b2, 0, none⟩), .pointer (some ⟨p, 0, none⟩)] w fun e w' => ∃ g, e = .returned (.pointer (some ⟨g, 0, none⟩)) ∧ w.heap.size ≤ g ∧ Blk w' g 104 (stC (List.zipWith joinI xs ys) (min lo lo') (max hi hi')) ∧ Grew w w' := by
  have HA1 := Lib.hid (itvB_all o1)
  have HA2 := Lib.hid (itvB_all o2)
  have hc1 := (st_four o1).1
  have hc2 := (st_four o2).1
  have HL1 : Hid (xs.length = 4) := Lib.hid (by obtain ⟨_, x0, x1, x2, x3, rfl, _⟩ := st_four o1; rfl)
  have HL2 : Hid (ys.length = 4) := Lib.hid (by obtain ⟨_, x0, x1, x2, x3, rfl, _⟩ := st_four o2; rfl)
  have HE : Hid (∀ W, Calls Try.prog 86 #[.agg #[.int .i64 lo, .int .i64 hi], .agg #[.int .i64 lo', .int .i64 hi']] W fun e w' => e = .returned (.agg #[.int .i64 (min lo lo'), .int .i64 (max hi hi')]) ∧ Grew W w') := Lib.hid (fun W => implItvJoin ⟨lo, hi⟩ ⟨lo', hi'⟩ W hc1 hc2)
  have HB1 := Lib.hid h1
  have HB2 := Lib.hid h2
  have lp := World.block_lt_of_cell? w _ hp
  have HLt := Lib.hid (⟨lp, h1.lt, h2.lt⟩ : p < w.heap.size ∧ b1 < w.heap.size ∧ b2 < w.heap.size)
  have HP := Lib.hid (fun W (g : Grew w W) => (g.cell (p := ⟨p, 0, none⟩) lp).trans hp)
  obtain ⟨c0, c1⟩ := st_end h1 HL1.out
  obtain ⟨d0, d1⟩ := st_end h2 HL2.out
  have l1 := h1.lt
  have l2 := h2.lt
  have HSG := Lib.hid (fun W (g : Grew w W) => (⟨HP.out _ g, (st_end (HB1.out.grew g) HL1.out).1, (st_end (HB1.out.grew g) HL1.out).2, (st_end (HB2.out.grew g) HL2.out).1, (st_end (HB2.out.grew g) HL2.out).2⟩ : W.cell? ⟨p, 0, none⟩ = some (.func (.func 86) #[] #[]) ∧ W.cell? ⟨b1, 8, none⟩ = some (.int .i64 lo) ∧ W.cell? ⟨b1, 9, none⟩ = some (.int .i64 hi) ∧ W.cell? ⟨b2, 8, none⟩ = some (.int .i64 lo') ∧ W.cell? ⟨b2, 9, none⟩ = some (.int .i64 hi')))
  obtain ⟨jl, hjl⟩ : ∃ j, min lo lo' = j := ⟨_, rfl⟩
  obtain ⟨jh, hjh⟩ : ∃ j, max hi hi' = j := ⟨_, rfl⟩
  rw [hjl, hjh] at HE ⊢
  clear o1 o2 hc1 hc2 h1 h2 hp lp c0 c1 d0 d1 l1 l2 hjl hjh
  go_enter Try.func156, Try.ntmps156
  go_wp2_with fail
  go_region_held3 (fun W => W.cell? ⟨p, 0, none⟩ = some (.func (.func 86) #[] #[]) ∧ W.cell? ⟨b1, 8, none⟩ = some (.int .i64 lo) ∧ W.cell? ⟨b1, 9, none⟩ = some (.int .i64 hi) ∧ W.cell? ⟨b2, 8, none⟩ = some (.int .i64 lo') ∧ W.cell? ⟨b2, 9, none⟩ = some (.int .i64 hi')) (first | assumption | exact HSG.out _ (by repeat (first | with_reducible exact Below.refl _ _ | with_reducible assumption | with_reducible apply grew_ext | with_reducible apply grew_al | with_reducible apply grew_dn | with_reducible apply grew_d | (with_reducible refine grew_set ?_ (by first | omega | (repeat (first | with_reducible exact Nat.le_refl _ | with_reducible apply le_pl | with_reducible apply le_ext | with_reducible apply le_al))) _))))
    (first
    | (refine (HE.out _).mono ?_; rintro e wh ⟨rfl, ga⟩; (first | obtain ⟨ya, rfl⟩ := ext_cold ga | obtain ⟨ya, rfl⟩ := ext_col ga | obtain ⟨ya, rfl⟩ := ext_of ga); clear ga))
  obtain ⟨g, hg⟩ : ∃ g, (ext w.drew ya).heap.size = g := ⟨_, rfl⟩
  have hgw : w.heap.size ≤ g := by rw [← hg]; have := ext_size _ ya; simpa using this
  simp only [hg]
  go_wp2
  refine wp_letH ?_
  intro E hE
  have HBg : Hid (Blk E g 104 (stC [⟨0, 0⟩, ⟨0, 0⟩, ⟨0, 0⟩, ⟨0, 0⟩] jl jh)) := Lib.hid (by rw [hE, ← hg]; exact Blk.new _ _ _)
  have HGE : Hid (Grew w E) := Lib.hid (by rw [hE]; repeat (first | with_reducible exact Below.refl _ _ | with_reducible assumption | with_reducible apply grew_ext | with_reducible apply grew_al | with_reducible apply grew_dn | with_reducible apply grew_d | (with_reducible refine grew_set ?_ (by first | omega | (repeat (first | with_reducible exact Nat.le_refl _ | with_reducible apply le_pl | with_reducible apply le_ext | with_reducible apply le_al))) _)))
  clear hE hg HE HSG
  go_loopw [7, 20] (fun u i wr => ∃ (k : Nat) (zs : List Itv), k ≤ 4 ∧ i = .int .i64 k ∧ zs.length = 4 ∧ Blk wr g 104 (stC zs jl jh) ∧ (∀ j, j < k → zs[j]? = (List.zipWith joinI xs ys)[j]?) ∧ Grew w wr) (fun _ i _ => 4 - (intOf i).toNat)
  case atStart => exact ⟨0, _, Nat.zero_le _, rfl, rfl, HBg.out, by simp, HGE.out⟩
  case round =>
    clear HBg HGE
    obtain ⟨k, zs, hk, rfl, hzl, hbz, hall, hg⟩ := hrel
    have HG := Lib.hid hg
    have HA := Lib.hid hall
    have HBz := Lib.hid hbz
    have HZl := Lib.hid hzl
    clear hall hbz hzl
    by_cases hlt : k < 4
    · obtain ⟨x, hx⟩ : ∃ x, xs[k]? = some x := ⟨xs[k]'(by rw [HL1.out]; exact hlt), List.getElem?_eq_getElem _⟩
      obtain ⟨y, hy⟩ : ∃ y, ys[k]? = some y := ⟨ys[k]'(by rw [HL2.out]; exact hlt), List.getElem?_eq_getElem _⟩
      obtain ⟨z, hz⟩ : ∃ z, zs[k]? = some z := ⟨zs[k]'(by rw [HZl.out]; exact hlt), List.getElem?_eq_getElem _⟩
      have hj : (List.zipWith joinI xs ys)[k]? = some (joinI x y) := by simp [List.getElem?_zipWith, hx, hy]
      have HJ := Lib.hid hj
      have HZk := Lib.hid hz
      have C := fun W => implItvJoin x y W (HA1.out x (List.mem_of_getElem? hx)) (HA2.out y (List.mem_of_getElem? hy))
      obtain ⟨j, hje⟩ : ∃ j, joinI x y = j := ⟨_, rfl⟩
      rw [hje] at C
      have HJe := Lib.hid hje
      have HX := Lib.hid hx
      have HY := Lib.hid hy
      have HS2 := Lib.hid (fun W (h : Grew wr W) => (⟨HP.out _ (grew_tr HG.out h), (st_cell (HB1.out.grew (grew_tr HG.out h)) HL1.out HX.out).1, (st_cell (HB1.out.grew (grew_tr HG.out h)) HL1.out HX.out).2, (st_cell (HB2.out.grew (grew_tr HG.out h)) HL2.out HY.out).1, (st_cell (HB2.out.grew (grew_tr HG.out h)) HL2.out HY.out).2⟩ : W.cell? ⟨p, 0, none⟩ = some (.func (.func 86) #[] #[]) ∧ W.cell? ⟨b1, k * 2, none⟩ = some (.int .i64 x.lo) ∧ W.cell? ⟨b1, k * 2 + 1, none⟩ = some (.int .i64 x.hi) ∧ W.cell? ⟨b2, k * 2, none⟩ = some (.int .i64 y.lo) ∧ W.cell? ⟨b2, k * 2 + 1, none⟩ = some (.int .i64 y.hi)))
      have HS3 := Lib.hid (fun W (h : Grew wr W) (u v : Value) => (by
        obtain ⟨a0, a1, a2, a3, a4⟩ := HS2.out W h
        obtain ⟨t0, t1, t2⟩ := HLt.out
        have n0 : g ≠ p := by omega
        have n1 : g ≠ b1 := by omega
        have n2 : g ≠ b2 := by omega
        exact ⟨(World.cell?_setCell_far _ _ _ _ n0).trans ((World.cell?_setCell_far _ _ _ _ n0).trans a0), (World.cell?_setCell_far _ _ _ _ n1).trans ((World.cell?_setCell_far _ _ _ _ n1).trans a1), (World.cell?_setCell_far _ _ _ _ n1).trans ((World.cell?_setCell_far _ _ _ _ n1).trans a2), (World.cell?_setCell_far _ _ _ _ n2).trans ((World.cell?_setCell_far _ _ _ _ n2).trans a3), (World.cell?_setCell_far _ _ _ _ n2).trans ((World.cell?_setCell_far _ _ _ _ n2).trans a4)⟩ : (((W.setCell ⟨g, k * 2, none⟩ u).setCell ⟨g, k * 2 + 1, none⟩ v).cell? ⟨p, 0, none⟩ = some (.func (.func 86) #[] #[]) ∧ ((W.setCell ⟨g, k * 2, none⟩ u).setCell ⟨g, k * 2 + 1, none⟩ v).cell? ⟨b1, k * 2, none⟩ = some (.int .i64 x.lo) ∧ ((W.setCell ⟨g, k * 2, none⟩ u).setCell ⟨g, k * 2 + 1, none⟩ v).cell? ⟨b1, k * 2 + 1, none⟩ = some (.int .i64 x.hi) ∧ ((W.setCell ⟨g, k * 2, none⟩ u).setCell ⟨g, k * 2 + 1, none⟩ v).cell? ⟨b2, k * 2, none⟩ = some (.int .i64 y.lo) ∧ ((W.setCell ⟨g, k * 2, none⟩ u).setCell ⟨g, k * 2 + 1, none⟩ v).cell? ⟨b2, k * 2 + 1, none⟩ = some (.int .i64 y.hi))))
      have HC := Lib.hid C
      have HZc := Lib.hid (fun W (h : Grew wr W) => st_cell (HBz.out.grew h) HZl.out HZk.out)
      have hki : (k : Int) < 4 := by omega
      obtain ⟨xl, xh⟩ := x
      obtain ⟨yl, yh⟩ := y
      obtain ⟨wo, hwo⟩ : ∃ wo : World, wo = wr := ⟨_, rfl⟩
      subst hwo
      simp only at HC HS2 HS3
      clear hx hy hz hj hje C hg
      go_wp2_with fail
      go_region_held3 (fun W => W.cell? ⟨p, 0, none⟩ = some (.func (.func 86) #[] #[]) ∧ W.cell? ⟨b1, k * 2, none⟩ = some (.int .i64 xl) ∧ W.cell? ⟨b1, k * 2 + 1, none⟩ = some (.int .i64 xh) ∧ W.cell? ⟨b2, k * 2, none⟩ = some (.int .i64 yl) ∧ W.cell? ⟨b2, k * 2 + 1, none⟩ = some (.int .i64 yh)) (first | assumption | exact hs9 _ _ | exact HS2.out _ (by repeat (first | with_reducible exact Below.refl _ _ | with_reducible assumption | with_reducible apply grew_ext | with_reducible apply grew_al | with_reducible apply grew_dn | with_reducible apply grew_d | (with_reducible refine grew_set ?_ (by first | omega | (repeat (first | with_reducible exact Nat.le_refl _ | with_reducible apply le_pl | with_reducible apply le_ext | with_reducible apply le_al))) _))))
        (first
        | (refine (HC.out _).mono ?_; rintro e wh ⟨rfl, ga⟩; have hgh : Grew wo wh := grew_tr (by repeat (first | with_reducible exact Below.refl _ _ | with_reducible assumption | with_reducible apply grew_ext | with_reducible apply grew_al | with_reducible apply grew_dn | with_reducible apply grew_d | (with_reducible refine grew_set ?_ (by first | omega | (repeat (first | with_reducible exact Nat.le_refl _ | with_reducible apply le_pl | with_reducible apply le_ext | with_reducible apply le_al))) _))) ga; have hs8 := HS2.out _ hgh; have hs9 := HS3.out _ hgh; obtain ⟨z0, z1⟩ := HZc.out _ hgh; have zf := fun j => (HBz.out.grew hgh).frozen j; have zl := (HBz.out.grew hgh).lt; have HGh := Lib.hid hgh; clear ga hgh))
      have HE2 : Hid (Blk ((wh.setCell ⟨g, k * 2, none⟩ (.int .i64 j.lo)).setCell ⟨g, k * 2 + 1, none⟩ (.int .i64 j.hi)) g 104 (stC (zs.set k ⟨j.lo, j.hi⟩) jl jh) ∧ Grew w ((wh.setCell ⟨g, k * 2, none⟩ (.int .i64 j.lo)).setCell ⟨g, k * 2 + 1, none⟩ (.int .i64 j.hi))) := Lib.hid ⟨st_set (HBz.out.grew HGh.out) HZl.out hlt _ _, grew_set (grew_set (grew_tr HG.out HGh.out) hgw _) hgw _⟩
      clear z0 z1 zf zl hs8 hs9
      go_wp2
      go_roundw
      case rel =>
        refine ⟨k + 1, zs.set k j, by omega, by go_num, by rw [List.length_set]; exact HZl.out, HE2.out.1, fun i hi => ?_, HE2.out.2⟩
        by_cases hik : i = k
        · subst hik
          rw [HJ.out, HJe.out, List.getElem?_set_self (by rw [HZl.out]; exact hlt)]
        · rw [List.getElem?_set_ne (fun e => hik e.symm), HA.out i (by omega)]
      case measure => simp [intOf]; omega
    · obtain rfl : k = 4 := by omega
      have hze : zs = List.zipWith joinI xs ys := by
        apply List.ext_getElem?
        intro i
        by_cases hi : i < 4
        · exact HA.out i hi
        · rw [List.getElem?_eq_none_iff.2 (by rw [HZl.out]; omega), List.getElem?_eq_none_iff.2 (by rw [List.length_zipWith, HL1.out, HL2.out]; omega)]
      have HZe := Lib.hid hze
      clear hg hze
      go_wp2
      go_ret
      exact ⟨g, rfl, hgw, by rw [← HZe.out]; exact HBz.out, HG.out⟩
end Go.Proofs.Ytnjoofpllhbccaa

/- The join of two states that are ok: the program's side, all of it. No condition. -/
namespace Go.Proofs.Ytnjoofpllhbccaa
open Go.RowKit
set_option linter.unusedVariables false
set_option linter.unusedSimpArgs false
attribute [local go_sem] ext_cell ext_frozen ext_lt ext_le ext_le1 lt_s2 lt_s3 lt_s4 lt_s5 lt_s6 ext_lt1 ext_lt2 ext_lt3

theorem ptrEq (p : Addr) (w : World) : (binOp .eql 96 (.pointer (some p)) (.pointer none)).run Try.prog w = .ok (.bool false) w := by simp [go_sem]
/-- What two states that are ok make. -/
def joinSt (xs : List Itv) (lo hi : Int) (on' : Bool) (ys : List Itv) (lo' hi' : Int) : St := if on' then ⟨true, List.zipWith joinI xs ys, min lo lo', max hi hi'⟩ else ⟨true, xs, lo, hi⟩
def RetPS (xs : List Itv) (lo hi : Int) (w : World) (e : Ending) (w' : World) : Prop := ∃ g, e = .returned (.pointer (some ⟨g, 0, none⟩)) ∧ Blk w' g 104 (stC xs lo hi) ∧ Grew w w'
section
attribute [local go_sem ↓] ptrEq
theorem implFold (b1 b2 p : Nat) (xs ys : List Itv) (lo hi lo' hi' : Int) (w : World) (h1 : Blk w b1 104 (stC xs lo hi)) (h2 : Blk w b2 104 (stC ys lo' hi')) (o1 : stOkB true xs lo hi = true) (o2 : stOkB true ys lo' hi' = true)
    (hp : w.cell? ⟨p, 0, none⟩ = some (.func (.func 86) #[] #[])) :
    Calls Try.prog 155 #[.pointer (some ⟨b1, 0, none⟩), .pointer (some ⟨b2, 0, none⟩), .func (.func 156) #[] #[.pointer (some ⟨p, 0, none⟩)]] w (RetPS (List.zipWith joinI xs ys) (min lo lo') (max hi hi') w) := by
  have HM := Lib.hid (implMix b1 b2 p xs ys lo hi lo' hi' w h1 h2 o1 o2 hp)
  clear h1 h2 o1 o2 hp
  go_enter Try.func155, Try.ntmps155
  go_wp2_with fail
  refine HM.out.mono ?_
  rintro e w1 ⟨g, rfl, hg, hb, gw⟩
  have HB := Lib.hid (And.intro hb gw)
  clear hb gw hg
  go_wp2
  go_ret
  exact ⟨g, rfl, HB.out.1, HB.out.2⟩
theorem implMixed (b1 b2 : Nat) (xs ys : List Itv) (lo hi lo' hi' : Int) (w : World) (h1 : Blk w b1 104 (stC xs lo hi)) (h2 : Blk w b2 104 (stC ys lo' hi')) (o1 : stOkB true xs lo hi = true) (o2 : stOkB true ys lo' hi' = true) :
    Calls Try.prog 127 #[.pointer (some ⟨b1, 0, none⟩), .pointer (some ⟨b2, 0, none⟩), .func (.func 86) #[] #[]] w (RetPS (List.zipWith joinI xs ys) (min lo lo') (max hi hi') w) := by
  have HF := Lib.hid (fun W (g : Grew w W) p hp => implFold b1 b2 p xs ys lo hi lo' hi' W (h1.grew g) (h2.grew g) o1 o2 hp)
  clear h1 h2 o1 o2
  go_enter Try.func127, Try.ntmps127
  go_wp2_with fail
  refine (HF.out _ (by repeat (first | with_reducible exact Below.refl _ _ | with_reducible assumption | with_reducible apply grew_ext | with_reducible apply grew_al | with_reducible apply grew_dn | with_reducible apply grew_d | (with_reducible refine grew_set ?_ (by first | omega | (repeat (first | with_reducible exact Nat.le_refl _ | with_reducible apply le_pl | with_reducible apply le_ext | with_reducible apply le_al))) _))) _ (by simp [go_sem])).mono ?_
  rintro e w1 ⟨g, rfl, hb, gw⟩
  have HB := Lib.hid (And.intro hb (show Grew w w1 from grew_tr (by repeat (first | with_reducible exact Below.refl _ _ | with_reducible assumption | with_reducible apply grew_ext | with_reducible apply grew_al | with_reducible apply grew_dn | with_reducible apply grew_d | (with_reducible refine grew_set ?_ (by first | omega | (repeat (first | with_reducible exact Nat.le_refl _ | with_reducible apply le_pl | with_reducible apply le_ext | with_reducible apply le_al))) _))) gw))
  clear hb gw
  go_wp2
  go_ret
  exact ⟨g, rfl, HB.out.1, HB.out.2⟩
theorem implMixedN (b1 : Nat) (w : World) :
    Calls Try.prog 127 #[.pointer (some ⟨b1, 0, none⟩), .pointer none, .func (.func 86) #[] #[]] w fun e w' => e = .returned (.pointer (some ⟨b1, 0, none⟩)) ∧ Grew w w' := by
  have HF : Hid (∀ W fv, Calls Try.prog 155 #[.pointer (some ⟨b1, 0, none⟩), .pointer none, fv] W fun e w' => e = .returned (.pointer (some ⟨b1, 0, none⟩)) ∧ W = w') := Lib.hid (fun W fv => by
    go_enter Try.func155, Try.ntmps155
    go_wp2
    go_ret
    exact ⟨rfl, rfl⟩)
  go_enter Try.func127, Try.ntmps127
  go_wp2_with fail
  refine (HF.out _ _).mono ?_
  rintro e w1 ⟨rfl, rfl⟩
  go_wp2
  go_ret
  refine ⟨rfl, ?_⟩
  repeat (first | with_reducible exact Below.refl _ _ | with_reducible assumption | with_reducible apply grew_ext | with_reducible apply grew_al | with_reducible apply grew_dn | with_reducible apply grew_d | (with_reducible refine grew_set ?_ (by first | omega | (repeat (first | with_reducible exact Nat.le_refl _ | with_reducible apply le_pl | with_reducible apply le_ext | with_reducible apply le_al))) _))
end
theorem stAbsC (g : Nat) (xs : List Itv) (lo hi : Int) (w : World) (hb : Blk w g 104 (stC xs lo hi)) (h4 : xs.length = 4) :
    Calls Try.prog 72 #[.pointer (some ⟨g, 0, none⟩)] w fun en w' => ∃ a c, en = .returned (.agg #[.bool true, .slice a xs.length c, .int .i64 lo, .int .i64 hi]) ∧ w'.ownsRow w.heap.size 32 2 (.slice a xs.length c) xs.length (xs.flatMap Itv.cells) ∧ Grew w w' := by
  match xs, h4 with
  | [x0, x1, x2, x3], _ =>
    refine (stAbs g x0 x1 x2 x3 ⟨lo, hi⟩ w hb).mono ?_
    rintro e w' ⟨val, rfl, ⟨a, c, rfl, ho⟩, gw⟩
    exact ⟨a, c, rfl, ho, gw⟩
/-- A state by value that can be read. -/
def RetSv (S : St) (w : World) (e : Ending) (w' : World) : Prop := ∃ a c, e = .returned (.agg #[.bool S.on, .slice a S.vars.length c, .int .i64 S.lo, .int .i64 S.hi]) ∧ w'.ownsRow w.heap.size 32 2 (.slice a S.vars.length c) S.vars.length (S.vars.flatMap Itv.cells) ∧ Grew w w'
set_option maxHeartbeats 2000000 in
theorem implCombined (a : Option Addr) (n c : Nat) (xs : List Itv) (lo hi : Int) (on' : Bool) (a' : Option Addr) (n' c' : Nat) (ys : List Itv) (lo' hi' : Int) (w : World) (hr : RdL EItv 2 w a n xs) (hr' : RdL EItv 2 w a' n' ys) (hn : n ≤ 9223372036854775807) (hn' : n' ≤ 9223372036854775807) (hc : n ≤ c) (hc' : n' ≤ c')
    (o1 : stOkB true xs lo hi = true) (o2 : stOkB on' ys lo' hi' = true) :
    Calls Try.prog 85 #[.agg #[.bool true, .slice a n c, .int .i64 lo, .int .i64 hi], .agg #[.bool on', .slice a' n' c', .int .i64 lo', .int .i64 hi'], .func (.func 86) #[] #[]] w (RetSv (joinSt xs lo hi on' ys lo' hi') w) := by
  have HC := Lib.hid (fun W (h : Grew w W) => implReadState true a n c xs lo hi W (hr.grew staysItv h) hn hc)
  have HD := Lib.hid (fun W (h : Grew w W) => implReadState on' a' n' c' ys lo' hi' W (hr'.grew staysItv h) hn' hc')
  have HO1 := Lib.hid o1
  have HO2 := Lib.hid o2
  have HL1 : Hid (xs.length = 4) := Lib.hid (by obtain ⟨_, x0, x1, x2, x3, rfl, _⟩ := st_four o1; rfl)
  clear hr hr' o1 o2
  go_enter Try.func85, Try.ntmps85
  go_wp2_with fail
  refine (HC.out _ (by repeat (first | with_reducible exact Below.refl _ _ | with_reducible assumption | with_reducible apply grew_ext | with_reducible apply grew_al | with_reducible apply grew_dn | with_reducible apply grew_d | (with_reducible refine grew_set ?_ (by first | omega | (repeat (first | with_reducible exact Nat.le_refl _ | with_reducible apply le_pl | with_reducible apply le_ext | with_reducible apply le_al))) _)))).mono ?_
  rintro e w1 ⟨g1, ⟨h, rfl⟩ | ⟨h, b1, rfl, hb1, h1⟩⟩
  · rw [HO1.out] at h
    cases h
  have hG1 : Grew w w1 := grew_tr (by repeat (first | with_reducible exact Below.refl _ _ | with_reducible assumption | with_reducible apply grew_ext | with_reducible apply grew_al | with_reducible apply grew_dn | with_reducible apply grew_d | (with_reducible refine grew_set ?_ (by first | omega | (repeat (first | with_reducible exact Nat.le_refl _ | with_reducible apply le_pl | with_reducible apply le_ext | with_reducible apply le_al))) _))) g1
  have q0 : w1.cell? ⟨w.heap.size + 1, 0, none⟩ = some (.bool on') := (g1.cell (p := ⟨w.heap.size + 1, 0, none⟩) (by simp)).trans (by simp [go_sem])
  have q1 : w1.cell? ⟨w.heap.size + 1, 1, none⟩ = some (.slice a' n' c') := (g1.cell (p := ⟨w.heap.size + 1, 1, none⟩) (by simp)).trans (by simp [go_sem])
  have q2 : w1.cell? ⟨w.heap.size + 1, 2, none⟩ = some (.int .i64 lo') := (g1.cell (p := ⟨w.heap.size + 1, 2, none⟩) (by simp)).trans (by simp [go_sem])
  have q3 : w1.cell? ⟨w.heap.size + 1, 3, none⟩ = some (.int .i64 hi') := (g1.cell (p := ⟨w.heap.size + 1, 3, none⟩) (by simp)).trans (by simp [go_sem])
  have Z1 : Hid (Blk w1 (w.heap.size + 1 + 1) 34 #[.bool false, .slice none 0 0, .int .i64 0, .int .i64 0]) := Lib.hid ((by (repeat (first | with_reducible assumption | with_reducible exact Blk.new' (by simp only [World.size_alloc, World.size_drew, World.size_setCell]) | with_reducible refine Blk.alloc ?_ _ | with_reducible refine Blk.grew ?_ (grew_d (Below.refl _ _)) | with_reducible refine Blk.far ?_ (by first | assumption | (simp only; omega)) _)) : Blk (((w.alloc (.cells #[.bool true, .slice a n c, .int .i64 lo, .int .i64 hi] 34)).alloc (.cells #[.bool on', .slice a' n' c', .int .i64 lo', .int .i64 hi'] 34)).alloc (.cells #[.bool false, .slice none 0 0, .int .i64 0, .int .i64 0] 34)) (w.heap.size + 1 + 1) 34 _).grew g1)
  have HG1 := Lib.hid hG1
  have H1 := Lib.hid h1
  clear h hb1 h1 g1 hG1
  go_wp2_with fail
  refine (HD.out _ HG1.out).mono ?_
  rintro e w2 ⟨g2, hcase⟩
  have HG2 := Lib.hid (grew_tr HG1.out g2)
  have Z2 := Lib.hid (Z1.out.grew g2)
  have H2 := Lib.hid (H1.out.grew g2)
  clear q0 q1 q2 q3 Z1 g2
  rcases hcase with ⟨h, rfl⟩ | ⟨h, b2, rfl, hb2, h2⟩
  · rw [HO2.out] at h ⊢
    simp only [Bool.true_and] at h
    subst h
    have HS := Lib.hid (implMixedN b1 w2)
    go_wp2_with fail
    refine HS.out.mono ?_
    rintro e w3 ⟨rfl, g3⟩
    have HG3 := Lib.hid (grew_tr HG2.out g3)
    have Z3 := Lib.hid (Z2.out.grew g3)
    have HA := Lib.hid (stAbsC b1 xs lo hi w3 (H2.out.grew g3) HL1.out)
    clear g3
    go_wp2_with fail
    refine HA.out.mono ?_
    rintro e w4 ⟨ra, rc, rfl, ho, g4⟩
    have HG4 := Lib.hid (grew_tr HG3.out g4)
    have Z4 := Z3.out.grew g4
    have z0 := Z4.cell 0
    have z1 := Z4.cell 1
    have z2 := Z4.cell 2
    have z3 := Z4.cell 3
    have zf := fun j => Z4.frozen j
    have zl := Z4.lt
    have zl3 := Z3.out.lt
    simp only [List.getElem?_toArray, List.getElem?_cons_zero, List.getElem?_cons_succ] at z0 z1 z2 z3
    have HO4 := Lib.hid ho
    clear Z4 ho g4
    go_wp2
    refine bodyPost_ret (by simp [results, Try.results85, go_sem, z0, z1, z2, z3, zl]; try rfl) rfl ?_
    show RetSv ⟨true, xs, lo, hi⟩ w _ _
    refine ⟨ra, rc, rfl, owns_mono (owns_set (owns_set (owns_set (owns_set HO4.out zl3 _) zl3 _) zl3 _) zl3 _) HG3.out.size, ?_⟩
    exact grew_set (grew_set (grew_set (grew_set HG4.out (by first | omega | (simp only; omega)) _) (by first | omega | (simp only; omega)) _) (by first | omega | (simp only; omega)) _) (by first | omega | (simp only; omega)) _
  · rw [Bool.and_eq_true] at h
    have hon := h.2
    subst hon
    have HL2 : Hid (ys.length = 4) := Lib.hid (by obtain ⟨_, x0, x1, x2, x3, e, _⟩ := st_four HO2.out; rw [e]; rfl)
    obtain ⟨js, hjs⟩ : ∃ js, List.zipWith joinI xs ys = js := ⟨_, rfl⟩
    have HJ4 : Hid (js.length = 4) := Lib.hid (by rw [← hjs]; simp [List.length_zipWith, HL1.out, HL2.out])
    have HS := implMixed b1 b2 xs ys lo hi lo' hi' w2 H2.out h2 HO1.out HO2.out
    rw [hjs] at HS
    have HS := Lib.hid HS
    have HJs := Lib.hid hjs
    clear hjs
    clear h hb2 h2
    go_wp2_with fail
    refine HS.out.mono ?_
    rintro e w3 ⟨g, rfl, hb3, g3⟩
    have HG3 := Lib.hid (grew_tr HG2.out g3)
    have Z3 := Lib.hid (Z2.out.grew g3)
    have HA := Lib.hid (stAbsC g js (min lo lo') (max hi hi') w3 hb3 HJ4.out)
    clear g3 hb3
    go_wp2_with fail
    refine HA.out.mono ?_
    rintro e w4 ⟨ra, rc, rfl, ho, g4⟩
    have HG4 := Lib.hid (grew_tr HG3.out g4)
    have Z4 := Z3.out.grew g4
    have z0 := Z4.cell 0
    have z1 := Z4.cell 1
    have z2 := Z4.cell 2
    have z3 := Z4.cell 3
    have zf := fun j => Z4.frozen j
    have zl := Z4.lt
    have zl3 := Z3.out.lt
    simp only [List.getElem?_toArray, List.getElem?_cons_zero, List.getElem?_cons_succ] at z0 z1 z2 z3
    have HO4 := Lib.hid ho
    clear Z4 ho g4
    go_wp2
    refine bodyPost_ret (by simp [results, Try.results85, go_sem, z0, z1, z2, z3, zl]; try rfl) rfl ?_
    show RetSv ⟨true, List.zipWith joinI xs ys, min lo lo', max hi hi'⟩ w _ _
    rw [HJs.out]
    refine ⟨ra, rc, rfl, owns_mono (owns_set (owns_set (owns_set (owns_set HO4.out zl3 _) zl3 _) zl3 _) zl3 _) HG3.out.size, ?_⟩
    exact grew_set (grew_set (grew_set (grew_set HG4.out (by first | omega | (simp only; omega)) _) (by first | omega | (simp only; omega)) _) (by first | omega | (simp only; omega)) _) (by first | omega | (simp only; omega)) _
theorem implAbsJoin (a : Option Addr) (n c : Nat) (xs : List Itv) (lo hi : Int) (on' : Bool) (a' : Option Addr) (n' c' : Nat) (ys : List Itv) (lo' hi' : Int) (w : World) (hr : RdL EItv 2 w a n xs) (hr' : RdL EItv 2 w a' n' ys) (hn : n ≤ 9223372036854775807) (hn' : n' ≤ 9223372036854775807) (hc : n ≤ c) (hc' : n' ≤ c')
    (o1 : stOkB true xs lo hi = true) (o2 : stOkB on' ys lo' hi' = true) :
    Calls Try.prog 25 #[.agg #[.bool true, .slice a n c, .int .i64 lo, .int .i64 hi], .agg #[.bool on', .slice a' n' c', .int .i64 lo', .int .i64 hi']] w (RetSv (joinSt xs lo hi on' ys lo' hi') w) := by
  have HC := Lib.hid (fun W (h : Grew w W) => implCombined a n c xs lo hi on' a' n' c' ys lo' hi' W (hr.grew staysItv h) (hr'.grew staysItv h) hn hn' hc hc' o1 o2)
  obtain ⟨S, hS⟩ : ∃ S, joinSt xs lo hi on' ys lo' hi' = S := ⟨_, rfl⟩
  rw [hS] at HC ⊢
  clear hr hr' o1 o2 hS
  go_enter Try.func25, Try.ntmps25
  go_wp2_with fail
  refine (HC.out _ (by repeat (first | with_reducible exact Below.refl _ _ | with_reducible assumption | with_reducible apply grew_ext | with_reducible apply grew_al | with_reducible apply grew_dn | with_reducible apply grew_d | (with_reducible refine grew_set ?_ (by first | omega | (repeat (first | with_reducible exact Nat.le_refl _ | with_reducible apply le_pl | with_reducible apply le_ext | with_reducible apply le_al))) _)))).mono ?_
  rintro e w1 ⟨ra, rc, rfl, ho, g1⟩
  have Z4 : Blk w1 (w.heap.size + 1 + 1) 34 #[.bool false, .slice none 0 0, .int .i64 0, .int .i64 0] := ((by (repeat (first | with_reducible assumption | with_reducible exact Blk.new' (by simp only [World.size_alloc, World.size_drew, World.size_setCell]) | with_reducible refine Blk.alloc ?_ _ | with_reducible refine Blk.grew ?_ (grew_d (Below.refl _ _)) | with_reducible refine Blk.far ?_ (by first | assumption | (simp only; omega)) _)) : Blk (((w.alloc (.cells #[.bool true, .slice a n c, .int .i64 lo, .int .i64 hi] 34)).alloc (.cells #[.bool on', .slice a' n' c', .int .i64 lo', .int .i64 hi'] 34)).alloc (.cells #[.bool false, .slice none 0 0, .int .i64 0, .int .i64 0] 34)) (w.heap.size + 1 + 1) 34 _).grew g1)
  have hG : Grew w w1 := grew_tr (by repeat (first | with_reducible exact Below.refl _ _ | with_reducible assumption | with_reducible apply grew_ext | with_reducible apply grew_al | with_reducible apply grew_dn | with_reducible apply grew_d | (with_reducible refine grew_set ?_ (by first | omega | (repeat (first | with_reducible exact Nat.le_refl _ | with_reducible apply le_pl | with_reducible apply le_ext | with_reducible apply le_al))) _))) g1
  have z0 := Z4.cell 0
  have z1 := Z4.cell 1
  have z2 := Z4.cell 2
  have z3 := Z4.cell 3
  have zf := fun j => Z4.frozen j
  have zl := Z4.lt
  simp only [List.getElem?_toArray, List.getElem?_cons_zero, List.getElem?_cons_succ] at z0 z1 z2 z3
  have HO4 := Lib.hid ho
  have HG := Lib.hid hG
  clear Z4 ho g1 hG HC
  go_wp2
  refine bodyPost_ret (by simp [results, Try.results25, go_sem, z0, z1, z2, z3, zl]; try rfl) rfl ?_
  refine ⟨ra, rc, rfl, owns_mono (owns_set (owns_set (owns_set (owns_set HO4.out (by simp) _) (by simp) _) (by simp) _) (by simp) _) (by simp; omega), ?_⟩
  exact grew_set (grew_set (grew_set (grew_set HG.out (by first | omega | (simp only; omega)) _) (by first | omega | (simp only; omega)) _) (by first | omega | (simp only; omega)) _) (by first | omega | (simp only; omega)) _
end Go.Proofs.Ytnjoofpllhbccaa

/- Plain law: what a state has its join with another one has, and each state that it is within. No condition. -/
namespace Go.Proofs.Ytnjoofpllhbccaa
open Go.RowKit
set_option linter.unusedVariables false
set_option linter.unusedSimpArgs false
attribute [local go_sem] ext_cell ext_frozen ext_lt ext_le ext_le1 lt_s2 lt_s3 lt_s4 lt_s5 lt_s6 ext_lt1 ext_lt2 ext_lt3

theorem hasB_split {on : Bool} {xs : List Itv} {lo hi : Int} {vs cs : List Int} (h : hasB on xs lo hi vs cs = true) : on = true ∧ stOkB true xs lo hi = true ∧ vs.length = 4 ∧ cs.length = 4 ∧ (xs.zip vs).all inP = true ∧ ∀ c, c ∈ cs → lo ≤ c ∧ c ≤ hi := by
  simp only [hasB, Bool.and_eq_true, decide_eq_true_eq, List.all_eq_true (p := inB lo hi)] at h
  obtain ⟨⟨⟨h1, rfl⟩, h2, h3⟩, h4, h5⟩ := h
  refine ⟨rfl, h1, h2, h3, h4, fun c hc => ?_⟩
  have := h5 c hc
  simp only [inB, Bool.and_eq_true, decide_eq_true_eq] at this
  exact this
theorem hasB_of {xs : List Itv} {lo hi : Int} {vs cs : List Int} (h1 : stOkB true xs lo hi = true) (h2 : vs.length = 4) (h3 : cs.length = 4) (h4 : (xs.zip vs).all inP = true) (h5 : ∀ c, c ∈ cs → lo ≤ c ∧ c ≤ hi) : hasB true xs lo hi vs cs = true := by
  simp only [hasB, Bool.and_eq_true, decide_eq_true_eq, List.all_eq_true (p := inB lo hi)]
  refine ⟨⟨⟨h1, trivial⟩, h2, h3⟩, h4, fun c hc => ?_⟩
  have := h5 c hc
  simp only [inB, Bool.and_eq_true, decide_eq_true_eq]
  exact this
theorem itvOkB_iff {lo hi : Int} : itvOkB lo hi = true ↔ -32768 ≤ lo ∧ hi ≤ 32767 ∧ lo ≤ hi := by
  simp only [itvOkB, Bool.and_eq_true, decide_eq_true_eq]
  omega
theorem join_ok {x y : Itv} (h1 : itvB x = true) (h2 : itvB y = true) : itvB (joinI x y) = true := by
  simp only [itvB, itvOkB_iff, joinI] at *
  omega
theorem join_in {x y : Itv} {v : Int} (h : inP (x, v) = true) : inP (joinI x y, v) = true := by
  simp only [inP, inB, joinI, Bool.and_eq_true, decide_eq_true_eq] at h ⊢
  exact ⟨decide_eq_true (Int.le_trans (Int.min_le_left _ _) h.1), decide_eq_true (Int.le_trans h.2 (Int.le_max_left _ _))⟩
theorem inI_in {x y : Itv} {v : Int} (h : inP (x, v) = true) (k : inI x y = true) : inP (y, v) = true := by
  simp only [inP, inB, inI, Bool.and_eq_true, decide_eq_true_eq] at *
  omega
theorem stOkB_of4 {x0 x1 x2 x3 : Itv} {lo hi : Int} (h : itvOkB lo hi = true) (h0 : itvB x0 = true) (h1 : itvB x1 = true) (h2 : itvB x2 = true) (h3 : itvB x3 = true) : stOkB true [x0, x1, x2, x3] lo hi = true := by
  simp [stOkB, h, h0, h1, h2, h3]
theorem joinSt_ok {xs ys : List Itv} {lo hi lo' hi' : Int} {on' : Bool} (o1 : stOkB true xs lo hi = true) (o2 : stOkB on' ys lo' hi' = true) : (joinSt xs lo hi on' ys lo' hi').on = true ∧ stOkB true (joinSt xs lo hi on' ys lo' hi').vars (joinSt xs lo hi on' ys lo' hi').lo (joinSt xs lo hi on' ys lo' hi').hi = true := by
  cases on'
  · exact ⟨rfl, o1⟩
  · obtain ⟨e1, x0, x1, x2, x3, rfl, a0, a1, a2, a3⟩ := st_four o1
    obtain ⟨e2, y0, y1, y2, y3, rfl, b0, b1, b2, b3⟩ := st_four o2
    refine ⟨rfl, ?_⟩
    show stOkB true [joinI x0 y0, joinI x1 y1, joinI x2 y2, joinI x3 y3] (min lo lo') (max hi hi') = true
    refine stOkB_of4 ?_ (join_ok a0 b0) (join_ok a1 b1) (join_ok a2 b2) (join_ok a3 b3)
    exact join_ok (x := ⟨lo, hi⟩) (y := ⟨lo', hi'⟩) e1 e2
theorem joinSt_has {xs ys : List Itv} {lo hi lo' hi' : Int} {on' : Bool} {vs cs : List Int} (o2 : stOkB on' ys lo' hi' = true) (h : hasB true xs lo hi vs cs = true) : hasB (joinSt xs lo hi on' ys lo' hi').on (joinSt xs lo hi on' ys lo' hi').vars (joinSt xs lo hi on' ys lo' hi').lo (joinSt xs lo hi on' ys lo' hi').hi vs cs = true := by
  obtain ⟨_, o1, h2, h3, h4, h5⟩ := hasB_split h
  obtain ⟨e, ok⟩ := joinSt_ok o1 o2
  rw [e]
  refine hasB_of ok h2 h3 ?_ ?_
  · cases on'
    · exact h4
    · obtain ⟨e1, x0, x1, x2, x3, rfl, a0, a1, a2, a3⟩ := st_four o1
      obtain ⟨e2, y0, y1, y2, y3, rfl, b0, b1, b2, b3⟩ := st_four o2
      obtain ⟨v0, v1, v2, v3, rfl⟩ := four_ints h2
      have h4 : inP (x0, v0) = true ∧ inP (x1, v1) = true ∧ inP (x2, v2) = true ∧ inP (x3, v3) = true := by simpa using h4
      show List.all [(joinI x0 y0, v0), (joinI x1 y1, v1), (joinI x2 y2, v2), (joinI x3 y3, v3)] inP = true
      simp [join_in h4.1, join_in h4.2.1, join_in h4.2.2.1, join_in h4.2.2.2]
  · intro c hc
    have := h5 c hc
    cases on'
    · exact this
    · show min lo lo' ≤ c ∧ c ≤ max hi hi'
      omega
theorem inS_has {xs ys : List Itv} {lo hi lo' hi' : Int} {vs cs : List Int} (o2 : stOkB true ys lo' hi' = true) (h : hasB true xs lo hi vs cs = true) (k : inS xs ys ⟨lo, hi⟩ ⟨lo', hi'⟩ = true) : hasB true ys lo' hi' vs cs = true := by
  obtain ⟨_, o1, h2, h3, h4, h5⟩ := hasB_split h
  obtain ⟨e1, x0, x1, x2, x3, rfl, a0, a1, a2, a3⟩ := st_four o1
  obtain ⟨e2, y0, y1, y2, y3, rfl, b0, b1, b2, b3⟩ := st_four o2
  obtain ⟨v0, v1, v2, v3, rfl⟩ := four_ints h2
  have h4 : inP (x0, v0) = true ∧ inP (x1, v1) = true ∧ inP (x2, v2) = true ∧ inP (x3, v3) = true := by simpa using h4
  have k : (inI x0 y0 = true ∧ inI x1 y1 = true ∧ inI x2 y2 = true ∧ inI x3 y3 = true) ∧ inI ⟨lo, hi⟩ ⟨lo', hi'⟩ = true := by simpa [inS] using k
  refine hasB_of o2 rfl h3 ?_ ?_
  · show List.all [(y0, v0), (y1, v1), (y2, v2), (y3, v3)] inP = true
    simp [inI_in h4.1 k.1.1, inI_in h4.2.1 k.1.2.1, inI_in h4.2.2.1 k.1.2.2.1, inI_in h4.2.2.2 k.1.2.2.2]
  · intro c hc
    have := h5 c hc
    have k2 := k.2
    simp only [inI, Bool.and_eq_true, decide_eq_true_eq] at k2
    omega
end Go.Proofs.Ytnjoofpllhbccaa
