/- Lemmas and walks of this proof, some texts one behind the other. No condition. -/
import Derived.Test.YtpmfpgbpndobpaaGreatStN
import Derived.Test.YtpmfpgbpndobpaaGreatDrAI
import Derived.Test.YtpmfpgbpndobpaaGreatStepA
import Derived.Test.YtpmfpgbpndobpaaGreatStepG
import Derived.Test.YtpmfpgbpndobpaaGreatDrSr
import Derived.Test.YtpmfpgbpndobpaaGreatDrG
import Derived.Test.YtpmfpgbpndobpaaGreatSums
set_option linter.unusedSimpArgs false
set_option linter.unusedVariables false
/- Whether a state is within another one, of any two: the program's way and the reference's. No condition. -/
namespace Go.Proofs.YtpmfpgbpndobpaaGreat
open Go.RowKit
set_option linter.unusedVariables false
set_option linter.unusedSimpArgs false
attribute [local go_sem] ext_cell ext_frozen ext_lt ext_le ext_le1 lt_s2 lt_s3 lt_s4 lt_s5 lt_s6 ext_lt1 ext_lt2 ext_lt3

def inG (onA : Bool) (xs : List Itv) (la ha : Int) (onB : Bool) (ys : List Itv) (lb hb : Int) : Bool := stOkB onA xs la ha && (stOkB onB ys lb hb && (!onA || (onB && inS xs ys ⟨la, ha⟩ ⟨lb, hb⟩)))
theorem implInState0 (p : Option Addr) (w : World) :
    Calls Tryz.prog 66 #[.pointer none, .pointer p] w fun e w' => e = .returned (.bool true) ∧ Grew w w' := by
  go_enter Tryz.func66, Tryz.ntmps66
  go_wp2
  go_ret
  exact ⟨rfl, gr⟩
set_option maxHeartbeats 2000000 in
theorem implAbsInG (onA : Bool) (a : Option Addr) (n c : Nat) (xs : List Itv) (la ha : Int) (onB : Bool) (a' : Option Addr) (n' c' : Nat) (ys : List Itv) (lb hb : Int) (w : World) (hr : RdL EItv 2 w a n xs) (hr' : RdL EItv 2 w a' n' ys) (hn : n ≤ 9223372036854775807) (hn' : n' ≤ 9223372036854775807) (hc : n ≤ c) (hc' : n' ≤ c') :
    Calls Tryz.prog 19 #[.agg #[.bool onA, .slice a n c, .int .i64 la, .int .i64 ha], .agg #[.bool onB, .slice a' n' c', .int .i64 lb, .int .i64 hb]] w fun e w' => e = .returned (.bool (inG onA xs la ha onB ys lb hb)) ∧ Grew w w' := by
  by_cases hA : onA = true ∧ stOkB true xs la ha = true ∧ stOkB onB ys lb hb = true
  · obtain ⟨rfl, h1, h2⟩ := hA
    refine (implAbsIn a n c xs la ha onB a' n' c' ys lb hb w hr hr' hn hn' hc hc' h1 h2).mono ?_
    rintro e w' ⟨rfl, g⟩
    exact ⟨by simp [inG, h1, h2], g⟩
  have HC := Lib.hid (fun W (h : Grew w W) => implReadState onA a n c xs la ha W (hr.grew staysItv h) hn hc)
  have HD := Lib.hid (fun W (h : Grew w W) => implReadState onB a' n' c' ys lb hb W (hr'.grew staysItv h) hn' hc')
  have HA := Lib.hid hA
  obtain ⟨FA, hFA⟩ : ∃ F, stOkB onA xs la ha = F := ⟨_, rfl⟩
  obtain ⟨FB, hFB⟩ : ∃ F, stOkB onB ys lb hb = F := ⟨_, rfl⟩
  have hV : ∀ V, V = inG onA xs la ha onB ys lb hb → V = (FA && (FB && (!onA || (onB && inS xs ys ⟨la, ha⟩ ⟨lb, hb⟩)))) := fun V h => by rw [h, inG, hFA, hFB]
  have HV := Lib.hid hV
  have HFB := Lib.hid hFB
  have HAA : Hid (¬ (onA = true ∧ FA = true ∧ FB = true)) := Lib.hid (fun ⟨h1, h2, h3⟩ => HA.out ⟨h1, by rw [h1] at hFA; rw [hFA, h2], hFB.trans h3⟩)
  have HFA := Lib.hid hFA
  obtain ⟨V, hVV⟩ : ∃ V, inG onA xs la ha onB ys lb hb = V := ⟨_, rfl⟩
  have HVV := Lib.hid (HV.out V hVV.symm)
  rw [hVV]
  clear hFA hFB hV HV hVV HA hr hr' hA
  go_enter Tryz.func19, Tryz.ntmps19
  go_wp2_with fail
  refine (HC.out _ (gr)).mono ?_
  rintro e w1 hh
  have g1 := hh.1
  have hh := hh.2
  have hG1 : Grew w w1 := grew_tr (gr) g1
  have q0 : w1.cell? ⟨w.heap.size + 1, 0, none⟩ = some (.bool onB) := (g1.cell (p := ⟨w.heap.size + 1, 0, none⟩) (by simp)).trans (by simp [go_sem])
  have q1 : w1.cell? ⟨w.heap.size + 1, 1, none⟩ = some (.slice a' n' c') := (g1.cell (p := ⟨w.heap.size + 1, 1, none⟩) (by simp)).trans (by simp [go_sem])
  have q2 : w1.cell? ⟨w.heap.size + 1, 2, none⟩ = some (.int .i64 lb) := (g1.cell (p := ⟨w.heap.size + 1, 2, none⟩) (by simp)).trans (by simp [go_sem])
  have q3 : w1.cell? ⟨w.heap.size + 1, 3, none⟩ = some (.int .i64 hb) := (g1.cell (p := ⟨w.heap.size + 1, 3, none⟩) (by simp)).trans (by simp [go_sem])
  have HG1 := Lib.hid hG1
  clear g1 hG1
  rw [HFA.out] at hh
  rcases hh with ⟨h, rfl⟩ | ⟨h, b1, rfl, _, _⟩
  · have HH := Lib.hid h
    clear h
    go_wp2_with fail
    refine (HD.out _ HG1.out).mono ?_
    rintro e w2 hk
    have HG2 := Lib.hid (grew_tr HG1.out hk.1)
    have hk := hk.2
    rw [HFB.out] at hk
    have HI0 := Lib.hid (fun p W => implInState0 p W)
    clear q0 q1 q2 q3
    have fin : Grew w w2 := HG2.out
    rcases hk with ⟨h2, rfl⟩ | ⟨h2, b2, rfl, _, _⟩
    · have HK := Lib.hid h2
      clear h2
      cases FA
      · go_wp2
        go_ret
        exact ⟨by rw [HVV.out]; rfl, gr⟩
      · cases FB
        · go_wp2
          go_ret
          exact ⟨by rw [HVV.out]; rfl, gr⟩
        · have hon : onA = false := by have := HH.out; simpa using this
          subst hon
          go_wp2_with ((with_reducible refine (HI0.out _ _).mono ?_); rintro e w' ⟨rfl, g'⟩; (first | obtain ⟨y, rfl⟩ := ext_cold g' | obtain ⟨y, rfl⟩ := ext_col g' | obtain ⟨y, rfl⟩ := ext_of g'); clear g')
          go_ret
          exact ⟨by rw [HVV.out]; rfl, gr⟩
    · have HK := Lib.hid h2
      clear h2
      obtain ⟨rfl, rfl⟩ : FB = true ∧ onB = true := by have := HK.out; simpa using this
      cases FA
      · go_wp2
        go_ret
        exact ⟨by rw [HVV.out]; rfl, gr⟩
      · have hon : onA = false := by have := HH.out; simpa using this
        subst hon
        go_wp2_with ((with_reducible refine (HI0.out _ _).mono ?_); rintro e w' ⟨rfl, g'⟩; (first | obtain ⟨y, rfl⟩ := ext_cold g' | obtain ⟨y, rfl⟩ := ext_col g' | obtain ⟨y, rfl⟩ := ext_of g'); clear g')
        go_ret
        exact ⟨by rw [HVV.out]; rfl, gr⟩
  · obtain ⟨rfl, rfl⟩ : FA = true ∧ onA = true := by simpa using h
    have hfb : FB = false := by
      cases FB
      · rfl
      · exact absurd ⟨rfl, rfl, rfl⟩ HAA.out
    subst hfb
    clear h
    go_wp2_with fail
    refine (HD.out _ HG1.out).mono ?_
    rintro e w2 hk
    have HG2 := Lib.hid (grew_tr HG1.out hk.1)
    have hk := hk.2
    rw [HFB.out] at hk
    clear q0 q1 q2 q3
    have fin : Grew w w2 := HG2.out
    rcases hk with ⟨h2, rfl⟩ | ⟨h2, b2, rfl, _, _⟩
    · clear h2
      go_wp2
      go_ret
      exact ⟨by rw [HVV.out]; rfl, gr⟩
    · simp at h2
theorem stOk_parts4 {xs : List Itv} {lo hi : Int} (h : stOkB true xs lo hi = true) : xs.length = 4 := by
  obtain ⟨_, x0, x1, x2, x3, rfl, _⟩ := st_four h
  rfl
/-- A state's box, in a world that grows. -/
def S4B (W : World) (b : Nat) (on : Bool) (a : Option Addr) (n c : Nat) (lo hi : Int) : Prop := b < W.heap.size ∧ W.cell? ⟨b, 0, none⟩ = some (.bool on) ∧ W.cell? ⟨b, 1, none⟩ = some (.slice a n c) ∧ W.cell? ⟨b, 2, none⟩ = some (.int .i64 lo) ∧ W.cell? ⟨b, 3, none⟩ = some (.int .i64 hi)
theorem S4B.grew {W W' : World} {b n c : Nat} {on : Bool} {a : Option Addr} {lo hi : Int} (h : S4B W b on a n c lo hi) (g : Grew W W') : S4B W' b on a n c lo hi :=
  ⟨Nat.lt_of_lt_of_le h.1 g.size, (g.cell (p := ⟨b, 0, none⟩) h.1).trans h.2.1, (g.cell (p := ⟨b, 1, none⟩) h.1).trans h.2.2.1, (g.cell (p := ⟨b, 2, none⟩) h.1).trans h.2.2.2.1, (g.cell (p := ⟨b, 3, none⟩) h.1).trans h.2.2.2.2⟩
theorem S4B.new (W : World) (on : Bool) (a : Option Addr) (n c : Nat) (lo hi : Int) (t : TypeId) : S4B (W.alloc (.cells #[.bool on, .slice a n c, .int .i64 lo, .int .i64 hi] t)) W.heap.size on a n c lo hi :=
  ⟨by simp, by simp [go_sem], by simp [go_sem], by simp [go_sem], by simp [go_sem]⟩
set_option maxHeartbeats 4000000 in
theorem specAbsInG (onA : Bool) (a : Option Addr) (n c : Nat) (xs : List Itv) (la ha : Int) (onB : Bool) (a' : Option Addr) (n' c' : Nat) (ys : List Itv) (lb hb : Int) (w : World) (hr : RdL EItv 2 w a n xs) (hr' : RdL EItv 2 w a' n' ys) (hn : n ≤ 9223372036854775807) (hn' : n' ≤ 9223372036854775807) :
    Calls Tryz.prog 20 #[.agg #[.bool onA, .slice a n c, .int .i64 la, .int .i64 ha], .agg #[.bool onB, .slice a' n' c', .int .i64 lb, .int .i64 hb]] w fun e w' => e = .returned (.bool (inG onA xs la ha onB ys lb hb)) ∧ Grew w w' := by
  have HX := Lib.hid hr
  have HY := Lib.hid hr'
  have HC := Lib.hid (fun W (h : Grew w W) => specAbsOk onA a n c xs la ha W (hr.grew staysItv h) hn)
  have HD := Lib.hid (fun W (h : Grew w W) => specAbsOk onB a' n' c' ys lb hb W (hr'.grew staysItv h) hn')
  obtain ⟨FA, hFA⟩ : ∃ F, stOkB onA xs la ha = F := ⟨_, rfl⟩
  obtain ⟨FB, hFB⟩ : ∃ F, stOkB onB ys lb hb = F := ⟨_, rfl⟩
  obtain ⟨V, hV⟩ : ∃ V, inG onA xs la ha onB ys lb hb = V := ⟨_, rfl⟩
  have HV := Lib.hid (show V = (FA && (FB && (!onA || (onB && inS xs ys ⟨la, ha⟩ ⟨lb, hb⟩)))) from by rw [← hV, inG, hFA, hFB])
  rw [hFA] at HC
  rw [hFB] at HD
  rw [hV]
  have HFA := Lib.hid hFA
  have HFB := Lib.hid hFB
  clear hFA hFB hV hr hr'
  go_enter Tryz.func20, Tryz.ntmps20
  go_upto_region 1 with fail
  refine wp_letH ?_
  intro E hE
  have GE := Lib.hid (show Grew w E from by rw [hE]; exact gr)
  have SA : Hid (S4B E w.heap.size onA a n c la ha) := Lib.hid (by rw [hE]; exact (S4B.new w _ _ _ _ _ _ _).grew (grew_al (Below.refl _ _) _))
  have SB : Hid (S4B E (w.heap.size + 1) onB a' n' c' lb hb) := Lib.hid (by rw [hE]; have := S4B.new (w.alloc (.cells #[.bool onA, .slice a n c, .int .i64 la, .int .i64 ha] 33)) onB a' n' c' lb hb 33; simpa only [World.size_alloc] using this)
  clear hE
  obtain ⟨bA, hbA⟩ : ∃ b, w.heap.size = b := ⟨_, rfl⟩
  obtain ⟨bB, hbB⟩ : ∃ b, w.heap.size + 1 = b := ⟨_, rfl⟩
  simp only [hbB] at SB ⊢
  simp only [hbA] at SA ⊢
  have HbA := Lib.hid hbA
  clear hbA hbB
  obtain ⟨l1, p0, p1, p2, p3⟩ := SA.out
  obtain ⟨l2, q0, q1, q2, q3⟩ := SB.out
  have HCE := Lib.hid (fun W (g : Grew E W) => HC.out W (grew_tr GE.out g))
  have HDE := Lib.hid (fun W (g : Grew E W) => HD.out W (grew_tr GE.out g))
  clear HC HD
  have gee := GE.out
  cases FA
  · go_wp2_with ((with_reducible refine (HCE.out _ (gr)).mono ?_); rintro e w' ⟨rfl, g'⟩; (first | obtain ⟨y, rfl⟩ := ext_cold g' | obtain ⟨y, rfl⟩ := ext_col g' | obtain ⟨y, rfl⟩ := ext_of g'); clear g')
    go_ret
    exact ⟨by rw [HV.out]; rfl, grew_tr gee (gr)⟩
  cases FB
  · go_wp2_with (first | ((with_reducible refine (HCE.out _ (gr)).mono ?_); rintro e w' ⟨rfl, g'⟩; (first | obtain ⟨y, rfl⟩ := ext_cold g' | obtain ⟨y, rfl⟩ := ext_col g' | obtain ⟨y, rfl⟩ := ext_of g'); clear g') | ((with_reducible refine (HDE.out _ (gr)).mono ?_); rintro e w' ⟨rfl, g'⟩; (first | obtain ⟨z, rfl⟩ := ext_cold g' | obtain ⟨z, rfl⟩ := ext_col g' | obtain ⟨z, rfl⟩ := ext_of g'); clear g'))
    go_ret
    exact ⟨by rw [HV.out]; rfl, grew_tr gee (gr)⟩
  cases onA
  · go_wp2_with (first | ((with_reducible refine (HCE.out _ (gr)).mono ?_); rintro e w' ⟨rfl, g'⟩; (first | obtain ⟨y, rfl⟩ := ext_cold g' | obtain ⟨y, rfl⟩ := ext_col g' | obtain ⟨y, rfl⟩ := ext_of g'); clear g') | ((with_reducible refine (HDE.out _ (gr)).mono ?_); rintro e w' ⟨rfl, g'⟩; (first | obtain ⟨z, rfl⟩ := ext_cold g' | obtain ⟨z, rfl⟩ := ext_col g' | obtain ⟨z, rfl⟩ := ext_of g'); clear g'))
    go_ret
    exact ⟨by rw [HV.out]; rfl, grew_tr gee (gr)⟩
  cases onB
  · go_wp2_with (first | ((with_reducible refine (HCE.out _ (gr)).mono ?_); rintro e w' ⟨rfl, g'⟩; (first | obtain ⟨y, rfl⟩ := ext_cold g' | obtain ⟨y, rfl⟩ := ext_col g' | obtain ⟨y, rfl⟩ := ext_of g'); clear g') | ((with_reducible refine (HDE.out _ (gr)).mono ?_); rintro e w' ⟨rfl, g'⟩; (first | obtain ⟨z, rfl⟩ := ext_cold g' | obtain ⟨z, rfl⟩ := ext_col g' | obtain ⟨z, rfl⟩ := ext_of g'); clear g'))
    go_ret
    exact ⟨by rw [HV.out]; rfl, grew_tr gee (gr)⟩
  have ho1 := HFA.out
  have ho2 := HFB.out
  have HA1 := Lib.hid (itvB_all ho1)
  have HA2 := Lib.hid (itvB_all ho2)
  have hl1 := (stOk_parts4 ho1)
  have hl2 := (stOk_parts4 ho2)
  have hx4 : n = 4 := by have := HX.out.len; omega
  have hy4 : n' = 4 := by have := HY.out.len; omega
  subst hx4 hy4
  have HL1 := Lib.hid hl1
  have HL2 := Lib.hid hl2
  have HI := Lib.hid (fun W => specItvIn ⟨la, ha⟩ ⟨lb, hb⟩ W (st_four ho1).1 (st_four ho2).1)
  clear ho1 ho2 hl1 hl2 HFA HFB
  obtain ⟨C, hC⟩ : ∃ C, inI ⟨la, ha⟩ ⟨lb, hb⟩ = C := ⟨_, rfl⟩
  rw [hC] at HI
  have HV2 : Hid (V = ((xs.zip ys).all (fun p => inI p.1 p.2) && C)) := Lib.hid (by rw [HV.out]; simp [inS, hC])
  clear hC HV
  cases C
  · go_wp2_with (first | ((with_reducible refine (HCE.out _ (gr)).mono ?_); rintro e w' ⟨rfl, g'⟩; (first | obtain ⟨y, rfl⟩ := ext_cold g' | obtain ⟨y, rfl⟩ := ext_col g' | obtain ⟨y, rfl⟩ := ext_of g'); clear g') | ((with_reducible refine (HDE.out _ (gr)).mono ?_); rintro e w' ⟨rfl, g'⟩; (first | obtain ⟨z, rfl⟩ := ext_cold g' | obtain ⟨z, rfl⟩ := ext_col g' | obtain ⟨z, rfl⟩ := ext_of g'); clear g') | ((with_reducible refine (HI.out _).mono ?_); rintro e w' ⟨rfl, g'⟩; (first | obtain ⟨u, rfl⟩ := ext_cold g' | obtain ⟨u, rfl⟩ := ext_col g' | obtain ⟨u, rfl⟩ := ext_of g'); clear g'))
    go_ret
    exact ⟨by rw [HV2.out]; simp, grew_tr gee (gr)⟩
  go_wp2_with (first | ((with_reducible refine (HCE.out _ (gr)).mono ?_); rintro e w' ⟨rfl, g'⟩; (first | obtain ⟨y, rfl⟩ := ext_cold g' | obtain ⟨y, rfl⟩ := ext_col g' | obtain ⟨y, rfl⟩ := ext_of g'); clear g') | ((with_reducible refine (HDE.out _ (gr)).mono ?_); rintro e w' ⟨rfl, g'⟩; (first | obtain ⟨z, rfl⟩ := ext_cold g' | obtain ⟨z, rfl⟩ := ext_col g' | obtain ⟨z, rfl⟩ := ext_of g'); clear g') | ((with_reducible refine (HI.out _).mono ?_); rintro e w' ⟨rfl, g'⟩; (first | obtain ⟨u, rfl⟩ := ext_cold g' | obtain ⟨u, rfl⟩ := ext_col g' | obtain ⟨u, rfl⟩ := ext_of g'); clear g'))
  have SGA := SA.out
  have SGB := SB.out
  clear l1 p0 p1 p2 p3 l2 q0 q1 q2 q3 HCE HDE
  have HGu := Lib.hid (ext_grew E u)
  go_loopw [5] (fun i wr => ∃ k : Nat, k ≤ 4 ∧ i = .int .i64 k ∧ Grew E wr ∧ ∀ p, p ∈ (xs.zip ys).take k → inI p.1 p.2 = true) (fun i _ => 4 - (intOf i).toNat)
  case atStart => exact ⟨0, Nat.zero_le _, rfl, HGu.out, by simp⟩
  case round =>
    obtain ⟨k, hk, rfl, hg, hall⟩ := hrel
    have HG := Lib.hid hg
    have HA := Lib.hid hall
    clear hall SGA SGB
    by_cases hlt : k < 4
    · obtain ⟨xb, xoff, xl, xh, rfl, hxk, c0, c1, db⟩ := rdItv_at ((HX.out.grew staysItv GE.out).grew staysItv HG.out) hlt
      obtain ⟨yb, yoff, yl, yh, rfl, hyk, e0, e1, eb⟩ := rdItv_at ((HY.out.grew staysItv GE.out).grew staysItv HG.out) hlt
      obtain ⟨l1, p0, p1, p2, p3⟩ := SA.out.grew HG.out
      obtain ⟨l2, q0, q1, q2, q3⟩ := SB.out.grew HG.out
      have hz : (xs.zip ys)[k]? = some (⟨xl, xh⟩, ⟨yl, yh⟩) := by rw [List.getElem?_zip_eq_some]; exact ⟨hxk, hyk⟩
      have HZ := Lib.hid hz
      have C := fun W => specItvIn ⟨xl, xh⟩ ⟨yl, yh⟩ W (HA1.out _ (List.mem_of_getElem? hxk)) (HA2.out _ (List.mem_of_getElem? hyk))
      have hkn : (k : Int) < 4 := by omega
      clear hxk hyk hz hg gee
      cases hq : inI ⟨xl, xh⟩ ⟨yl, yh⟩
      · rw [hq] at C
        have HCk := Lib.hid C
        have HF : Hid (V = false) := Lib.hid (by
          rw [HV2.out, Bool.and_true, List.all_eq_false]
          exact ⟨_, List.mem_of_getElem? HZ.out, by simp [hq]⟩)
        clear C hq
        go_wp2_with fail
        first | refine wp_region_ext2 (by kernel_rfl) (by kernel_rfl) ?_ | refine wp_region_ext (by kernel_rfl) (by kernel_rfl) ?_
        repeat (go_big_quiet_step ((first | (with_reducible exact ext_grow (HCk.out _)))))
        refine wpQuiet_nil ?_
        intro _ hw'
        obtain ⟨u, hw''⟩ := hw'
        subst hw''
        have HG2 := Lib.hid (show Grew E (ext wr u) from grew_tr HG.out (gr))
        clear c0 c1 e0 e1 l1 l2 p0 p1 p2 p3 q0 q1 q2 q3 db eb
        go_wp2
        go_ret
        rw [HF.out]
        exact ⟨rfl, grew_tr GE.out HG2.out⟩
      · rw [hq] at C
        have HCk := Lib.hid C
        have HQ := Lib.hid hq
        clear C hq
        go_wp2_with fail
        first | refine wp_region_ext2 (by kernel_rfl) (by kernel_rfl) ?_ | refine wp_region_ext (by kernel_rfl) (by kernel_rfl) ?_
        repeat (go_big_quiet_step ((first | (with_reducible exact ext_grow (HCk.out _)))))
        refine wpQuiet_nil ?_
        intro _ hw'
        obtain ⟨u, hw''⟩ := hw'
        subst hw''
        have HG2 := Lib.hid (show Grew E (ext wr u) from grew_tr HG.out (gr))
        clear c0 c1 e0 e1 l1 l2 p0 p1 p2 p3 q0 q1 q2 q3 db eb
        go_wp2
        go_roundw
        case rel =>
          refine ⟨k + 1, by omega, by go_num, HG2.out, fun p hp => ?_⟩
          rw [take_get HZ.out] at hp
          rcases List.mem_append.1 hp with hp | hp
          · exact HA.out p hp
          · rw [List.mem_singleton.1 hp]
            exact HQ.out
        case measure => simp [intOf]; omega
    · obtain rfl : k = 4 := by omega
      have HF : Hid (V = true) := Lib.hid (by
        rw [HV2.out, Bool.and_true, List.all_eq_true]
        intro p hp
        exact HA.out p (by rw [List.take_of_length_le (by rw [List.length_zip, HL1.out, HL2.out]; omega)]; exact hp))
      clear hg gee
      go_wp2
      go_ret
      rw [HF.out]
      exact ⟨rfl, grew_tr GE.out HG.out⟩
end Go.Proofs.YtpmfpgbpndobpaaGreat

/- Rows of places with states as results of a law: compared, marked, held. No condition. -/
namespace Go.Proofs.YtpmfpgbpndobpaaGreat
open Go.RowKit
set_option linter.unusedVariables false
set_option linter.unusedSimpArgs false
attribute [local go_sem] ext_cell ext_frozen ext_lt ext_le ext_le1 lt_s2 lt_s3 lt_s4 lt_s5 lt_s6 ext_lt1 ext_lt2 ext_lt3

/-! The reading of such a row. -/
def EEg : World → List Value → Ed → Prop := fun w cs e => ∃ a c, cs = [.int .i64 e.to, .bool true, .slice a e.xs.length c, .int .i64 e.c.lo, .int .i64 e.c.hi] ∧ RdL EItv 2 w a e.xs.length e.xs ∧ e.xs.length ≤ 1000
theorem OwnE.rd {w : World} {B n c : Nat} {a : Option Addr} {ms : List (Ed × Value)} {es : List Ed} (h : OwnE w B (.slice a n c) n ms) (hm : ms.map (·.1) = es) (h4 : ∀ e, e ∈ es → e.xs.length = 4) : RdL EEg 5 w a n es := by
  subst hm
  refine ⟨by rw [List.length_map]; exact h.1, ?_⟩
  rcases h.2.1.2 with ⟨h0, h1⟩ | ⟨g, cap, cur, hv, hB, hb, hc1, hc2, hsz, htk⟩
  · exact .inl h1
  · simp only [Value.slice.injEq] at hv
    obtain ⟨rfl, -, rfl⟩ := hv
    refine .inr ⟨g, 0, rfl, fun k x hx => ?_⟩
    rw [List.getElem?_map] at hx
    obtain ⟨m, hm, rfl⟩ := Option.map_eq_some_iff.1 hx
    have hmem := List.mem_of_getElem? hm
    have h5 := h4 m.1 (List.mem_map_of_mem hmem)
    obtain ⟨ra, rc, hr⟩ := owns_slice (h.2.2 m hmem)
    refine ⟨esC m, rfl, fun j u hu => ?_, ra, rc, by rw [esC, hr], ?_, by omega⟩
    · have hk : k < n := by rw [← h.1]; exact (List.getElem?_eq_some_iff.1 hm).1
      have hj : j < 5 := (List.getElem?_eq_some_iff.1 hu).1
      rw [Nat.zero_add]
      exact (h.2.1.cellAt (k * 5 + j) (by omega)).trans (flat_get esC 5 esC_len ms k m j u hm hu)
    · have := h.2.2 m hmem
      rw [hr] at this
      exact rdItv_of_own rfl this
end Go.Proofs.YtpmfpgbpndobpaaGreat

/- Rows of places with states: what the laws mark in them, and that the marks are held. No condition. -/
namespace Go.Proofs.YtpmfpgbpndobpaaGreat
open Go.RowKit
set_option linter.unusedVariables false
set_option linter.unusedSimpArgs false
attribute [local go_sem] ext_cell ext_frozen ext_lt ext_le ext_le1 lt_s2 lt_s3 lt_s4 lt_s5 lt_s6 ext_lt1 ext_lt2 ext_lt3

/-- A place with a state, cell by cell. -/
structure Eg where
  a0 : Value
  a1 : Value
  row : Value
  a3 : Value
  a4 : Value
  cs : List Value
def Eg.cells (g : Eg) : List Value := [g.a0, g.a1, g.row, g.a3, g.a4]
theorem eg_len (g : Eg) : g.cells.length = 5 := rfl
structure OwnG (w : World) (B N : Nat) (v : Value) (gs : List Eg) : Prop where
  top : w.ownsRow B 55 5 v gs.length (gs.flatMap Eg.cells)
  each : ∀ g, g ∈ gs → w.ownsRow B 31 2 g.row 4 g.cs
  apart : gs.Pairwise (fun x y => ∀ b, x.row.ownBlock = some b → y.row.ownBlock ≠ some b)
  t : ∀ b, v.ownBlock = some b → b < N
  r : ∀ g, g ∈ gs → ∀ b, g.row.ownBlock = some b → b < N
def egOf (m : Ed × Value) : Eg := ⟨.int .i64 m.1.to, .bool true, m.2, .int .i64 m.1.c.lo, .int .i64 m.1.c.hi, m.1.xs.flatMap Itv.cells⟩
theorem flat_egOf : ∀ ms : List (Ed × Value), (ms.map egOf).flatMap Eg.cells = ms.flatMap esC
  | [] => rfl
  | m :: ms => by rw [List.map_cons, List.flatMap_cons, List.flatMap_cons, flat_egOf ms]; rfl
section
variable {w w' : World} {B N : Nat} {v : Value} {gs : List Eg}
theorem OwnG.of {n : Nat} {ms : List (Ed × Value)} (h : OwnE w B v n ms) (hap : Apart ms) (h4 : ∀ m, m ∈ ms → m.1.xs.length = 4) : OwnG w B w.heap.size v (ms.map egOf) := by
  refine ⟨?_, fun g hg => ?_, ?_, fun b hb => (h.2.1.lt b hb).2, fun g hg b hb => ?_⟩
  · rw [flat_egOf, List.length_map, h.1]
    exact h.2.1
  · obtain ⟨m, hm, rfl⟩ := List.mem_map.1 hg
    have := h.2.2 m hm
    rw [h4 m hm] at this
    exact this
  · exact List.pairwise_map.2 hap
  · obtain ⟨m, hm, rfl⟩ := List.mem_map.1 hg
    exact ((h.2.2 m hm).lt b hb).2
theorem OwnG.chg {F : Nat → Prop} (h : OwnG w B N v gs) (c : Chg F w w') (hF : ∀ b, B ≤ b → b < N → ¬ F b) : OwnG w' B N v gs :=
  ⟨owns_chg h.top c (fun b hb => hF b (h.top.lt b hb).1 (h.t b hb)), fun g hg => owns_chg (h.each g hg) c (fun b hb => hF b ((h.each g hg).lt b hb).1 (h.r g hg b hb)), h.apart, h.t, h.r⟩
theorem OwnG.grew (h : OwnG w B N v gs) (g : Grew w w') : OwnG w' B N v gs := h.chg (Chg.of_below (F := fun _ => False) g) (fun _ _ _ e => e)
end
theorem OwnG.form {w : World} {B N n cap : Nat} {a : Option Addr} {gs : List Eg} (h : OwnG w B N (.slice a n cap) gs) (hn : gs.length = n) (h0 : 0 < n) : ∃ gb, a = some ⟨gb, 0, none⟩ := by
  rcases h.top.2 with ⟨h1, h2⟩ | ⟨g, cap', cur, h1, _⟩
  · omega
  · simp only [Value.slice.injEq] at h1
    exact ⟨g, h1.1⟩
theorem OwnG.cell {w : World} {B N n cap gb k : Nat} {gs : List Eg} {g : Eg} (h : OwnG w B N (.slice (some ⟨gb, 0, none⟩) n cap) gs) (hn : gs.length = n) (hk : gs[k]? = some g) :
    w.cell? ⟨gb, k * 5, none⟩ = some g.a0 ∧ w.cell? ⟨gb, k * 5 + 1, none⟩ = some g.a1 ∧ w.cell? ⟨gb, k * 5 + 2, none⟩ = some g.row ∧ w.cell? ⟨gb, k * 5 + 3, none⟩ = some g.a3 ∧ w.cell? ⟨gb, k * 5 + 4, none⟩ = some g.a4 ∧ ∀ j, w.frozen? ⟨gb, j, none⟩ = false := by
  have ht := h.top
  rw [hn] at ht
  have hkn : k < n := by rw [← hn]; exact (List.getElem?_eq_some_iff.1 hk).1
  have hlen : (gs.flatMap Eg.cells).length = n * 5 := by rw [flat_len Eg.cells 5 eg_len, hn]
  exact ⟨(ht.cellAt (k * 5) (by omega)).trans (flat_get Eg.cells 5 eg_len gs k g 0 _ hk rfl), (ht.cellAt (k * 5 + 1) (by omega)).trans (flat_get Eg.cells 5 eg_len gs k g 1 _ hk rfl), (ht.cellAt (k * 5 + 2) (by omega)).trans (flat_get Eg.cells 5 eg_len gs k g 2 _ hk rfl),
    (ht.cellAt (k * 5 + 3) (by omega)).trans (flat_get Eg.cells 5 eg_len gs k g 3 _ hk rfl), (ht.cellAt (k * 5 + 4) (by omega)).trans (flat_get Eg.cells 5 eg_len gs k g 4 _ hk rfl), fun j => ht.frozenAt j⟩
end Go.Proofs.YtpmfpgbpndobpaaGreat

/- States by value in memory of their own: the reference's l7Copy, l7Set. No condition. -/
namespace Go.Proofs.YtpmfpgbpndobpaaGreat
open Go.RowKit
set_option linter.unusedVariables false
set_option linter.unusedSimpArgs false
attribute [local go_sem] ext_cell ext_frozen ext_lt ext_le ext_le1 lt_s2 lt_s3 lt_s4 lt_s5 lt_s6 ext_lt1 ext_lt2 ext_lt3

/-- A state's variables in a row that a call owns, its block known. -/
def OwnR (w : World) (B rb c : Nat) (xs : List Itv) : Prop := xs.length = 4 ∧ B ≤ rb ∧ w.ownsRow B 31 2 (.slice (some ⟨rb, 0, none⟩) 4 c) 4 (xs.flatMap Itv.cells)
theorem OwnR.lt {w : World} {B rb c : Nat} {xs : List Itv} (h : OwnR w B rb c xs) : rb < w.heap.size := (h.2.2.lt rb rfl).2
theorem OwnR.grew {w w' : World} {B rb c : Nat} {xs : List Itv} (h : OwnR w B rb c xs) (g : Grew w w') : OwnR w' B rb c xs := ⟨h.1, h.2.1, owns_grew h.2.2 g⟩
theorem OwnR.chg {F : Nat → Prop} {w w' : World} {B rb c : Nat} {xs : List Itv} (h : OwnR w B rb c xs) (g : Chg F w w') (hF : ¬ F rb) : OwnR w' B rb c xs :=
  ⟨h.1, h.2.1, owns_chg h.2.2 g (fun b hb e => by
    have : rb = b := by simpa [Value.ownBlock] using hb
    subst this
    exact hF e)⟩
theorem OwnR.mono {w : World} {B B' rb c : Nat} {xs : List Itv} (h : OwnR w B rb c xs) (hB : B' ≤ B) : OwnR w B' rb c xs := ⟨h.1, Nat.le_trans hB h.2.1, owns_mono h.2.2 hB⟩
theorem OwnR.of {w : World} {B c : Nat} {a : Option Addr} {xs : List Itv} (h4 : xs.length = 4) (h : w.ownsRow B 31 2 (.slice a 4 c) 4 (xs.flatMap Itv.cells)) : ∃ rb, a = some ⟨rb, 0, none⟩ ∧ OwnR w B rb c xs := by
  obtain ⟨a', cap, he, hrd, h1, h2, h3, h5⟩ := owns_form h
  cases he
  cases a with
  | none => have := (h5 rfl).1; omega
  | some x =>
    obtain ⟨hb, hlt, ho, hs, hob⟩ := h3 x rfl
    obtain ⟨b, o, s⟩ := x
    simp only at ho hs hb
    subst ho hs
    exact ⟨b, rfl, h4, hb, h⟩
theorem OwnR.rd {w : World} {B rb c : Nat} {xs : List Itv} (h : OwnR w B rb c xs) : RdL EItv 2 w (some ⟨rb, 0, none⟩) 4 xs := rdItv_of_own h.1 h.2.2
theorem OwnR.cap {w : World} {B rb c : Nat} {xs : List Itv} (h : OwnR w B rb c xs) : 4 ≤ c := (owns_cap h.2.2).1
theorem OwnR.cell {w : World} {B rb c : Nat} {xs : List Itv} (h : OwnR w B rb c xs) {k : Nat} (hk : k < 4) {x : Itv} (hx : xs[k]? = some x) : w.cell? ⟨rb, k * 2, none⟩ = some (.int .i64 x.lo) ∧ w.cell? ⟨rb, k * 2 + 1, none⟩ = some (.int .i64 x.hi) := by
  obtain ⟨b, off, lo, hi, he, hy, c0, c1, _⟩ := rdItv_at h.rd hk
  cases he
  rw [hy] at hx
  cases hx
  simp only [Nat.zero_add] at c0 c1
  exact ⟨c0, c1⟩
theorem OwnR.frozen {w : World} {B rb c : Nat} {xs : List Itv} (h : OwnR w B rb c xs) (j : Nat) : w.frozen? ⟨rb, j, none⟩ = false := by
  rcases h.2.2.2 with ⟨hv, _⟩ | ⟨g, cap, cur, he, hb, hg, _⟩
  · cases hv
  · cases he
    exact Blk.frozen (t := 31) hg j
theorem OwnR.set {w : World} {B rb c : Nat} {xs : List Itv} (h : OwnR w B rb c xs) {k : Nat} (hk : k < 4) (x : Itv) :
    OwnR ((w.setCell ⟨rb, k * 2, none⟩ (.int .i64 x.lo)).setCell ⟨rb, k * 2 + 1, none⟩ (.int .i64 x.hi)) B rb c (xs.set k x) := by
  refine ⟨by rw [List.length_set]; exact h.1, h.2.1, ?_⟩
  have h4 := h.1
  have := own_sets [.int .i64 x.lo, .int .i64 x.hi] w _ (k * 2) h.2.2
  match xs, h4 with
  | [x0, x1, x2, x3], _ =>
    match k, hk with
    | 0, _ => exact this.1
    | 1, _ => exact this.1
    | 2, _ => exact this.1
    | 3, _ => exact this.1
end Go.Proofs.YtpmfpgbpndobpaaGreat

/- Rows of places with states: the reference's l7Edge; two rows joined. No condition. -/
namespace Go.Proofs.YtpmfpgbpndobpaaGreat
open Go.RowKit
set_option linter.unusedVariables false
set_option linter.unusedSimpArgs false
attribute [local go_sem] ext_cell ext_frozen ext_lt ext_le ext_le1 lt_s2 lt_s3 lt_s4 lt_s5 lt_s6 ext_lt1 ext_lt2 ext_lt3

/-- Places with states come back, in memory of their own above a bound. -/
def RetEb (es : List Ed) (B : Nat) (w : World) (e : Ending) (w' : World) : Prop := ∃ a c ms, e = .returned (.slice a es.length c) ∧ OwnE w' B (.slice a es.length c) es.length ms ∧ ms.map (·.1) = es ∧ Grew w w'
theorem RetEb.mono {es : List Ed} {B B' : Nat} {w0 w w' : World} {e : Ending} (h : RetEb es B w e w') (hB : B' ≤ B) (g : Grew w0 w) : RetEb es B' w0 e w' := by
  obtain ⟨a, c, ms, h1, h2, h3, h4⟩ := h
  exact ⟨a, c, ms, h1, h2.mono hB, h3, grew_tr g h4⟩
end Go.Proofs.YtpmfpgbpndobpaaGreat

/- The marking of sums; places with states below a bound; their contracts said of a letter. No condition. -/
namespace Go.Proofs.YtpmfpgbpndobpaaGreat
open Go.RowKit
set_option linter.unusedVariables false
set_option linter.unusedSimpArgs false
attribute [local go_sem] ext_cell ext_frozen ext_lt ext_le ext_le1 lt_s2 lt_s3 lt_s4 lt_s5 lt_s6 ext_lt1 ext_lt2 ext_lt3

/-- Such a row whose blocks all lie below N. -/
structure OwnEN (w : World) (B N : Nat) (v : Value) (n : Nat) (ms : List (Ed × Value)) : Prop where
  o : OwnE w B v n ms
  t : ∀ b, v.ownBlock = some b → b < N
  r : ∀ m, m ∈ ms → ∀ b, m.2.ownBlock = some b → b < N
section
variable {w w' : World} {B N n : Nat} {v : Value} {ms : List (Ed × Value)}
theorem OwnEN.of (h : OwnE w B v n ms) : OwnEN w B w.heap.size v n ms := ⟨h, fun b e => (h.2.1.lt b e).2, fun m hm b e => ((h.2.2 m hm).lt b e).2⟩
theorem OwnEN.chg {F : Nat → Prop} (h : OwnEN w B N v n ms) (c : Chg F w w') (hF : ∀ b, B ≤ b → b < N → ¬ F b) : OwnEN w' B N v n ms :=
  ⟨⟨h.o.1, owns_chg h.o.2.1 c (fun b hb => hF b (h.o.2.1.lt b hb).1 (h.t b hb)), fun m hm => owns_chg (h.o.2.2 m hm) c (fun b hb => hF b ((h.o.2.2 m hm).lt b hb).1 (h.r m hm b hb))⟩, h.t, h.r⟩
theorem OwnEN.grew (h : OwnEN w B N v n ms) (g : Grew w w') : OwnEN w' B N v n ms := h.chg (Chg.of_below (F := fun _ => False) g) (fun _ _ _ e => e)
end
theorem stepL_two (ps : List Prc) (ss : List Sum) (i : Ins) (pc : Int) (on : Bool) (xs : List Itv) (lo hi : Int) : (stepL ps ss i pc on xs lo hi).length ≤ 2 := by
  unfold stepL
  split
  · exact edges_two _ _ _ _ _ _
  · simp
theorem stepL_four {ps : List Prc} {ss : List Sum} {i : Ins} {pc : Int} {on : Bool} {xs : List Itv} {lo hi : Int} : ∀ e, e ∈ stepL ps ss i pc on xs lo hi → e.xs.length = 4 := by
  intro e he
  unfold stepL at he
  split at he
  · rename_i h
    rw [edges_len he]
    simp only [stepB, Bool.and_eq_true] at h
    obtain ⟨⟨h1, rfl⟩, -⟩ := h
    exact (stOk_parts h1).1
  · cases he
end Go.Proofs.YtpmfpgbpndobpaaGreat
