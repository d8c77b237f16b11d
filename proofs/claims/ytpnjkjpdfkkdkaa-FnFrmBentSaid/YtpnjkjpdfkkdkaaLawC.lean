/- The walk of the law on sums: each byte counts. No condition. -/
import Derived.Test.YtpnjkjpdfkkdkaaDrawW
import Derived.StillTailTactics
namespace Go.Proofs.Ytpnjkjpdfkkdkaa
open Go.RowKit
set_option linter.unusedVariables false

/-- The sum from a number on. -/
def sumFrom (s : Int) (l : List Int) : Int := l.foldl (fun s x => (s * 257 + x) % 65521) s
theorem sumI_from (l : List Int) : sumI l = sumFrom 1 l := rfl
theorem sumFrom_inj (l : List Int) : ∀ s t : Int, 0 ≤ s → s < 65521 → 0 ≤ t → t < 65521 → sumFrom s l = sumFrom t l → s = t := by
  induction l with
  | nil => intro s t _ _ _ _ h; exact h
  | cons x l ih =>
    intro s t h1 h2 h3 h4 h
    have := ih ((s * 257 + x) % 65521) ((t * 257 + x) % 65521) (by omega) (by omega) (by omega) (by omega) h
    omega
theorem sumFrom_set (l : List Int) : ∀ (s : Int) (i : Nat) (x y : Int), 0 ≤ s → s < 65521 → l[i]? = some x → 0 ≤ x → x ≤ 255 → 0 ≤ y → y ≤ 255 → sumFrom s (l.set i y) = sumFrom s l → y = x := by
  induction l with
  | nil => intro s i x y _ _ h; simp at h
  | cons z l ih =>
    intro s i x y h1 h2 hx hx0 hx1 hy0 hy1 h
    cases i with
    | zero =>
      obtain rfl := Option.some.inj hx
      have := sumFrom_inj l ((s * 257 + y) % 65521) ((s * 257 + z) % 65521) (by omega) (by omega) (by omega) (by omega) h
      omega
    | succ i => exact ih ((s * 257 + z) % 65521) i x y (by omega) (by omega) (by simpa using hx) hx0 hx1 hy0 hy1 h
theorem sumI_set {l : List Int} {i : Nat} {x y : Int} (hx : l[i]? = some x) (hx0 : 0 ≤ x) (hx1 : x ≤ 255) (hy0 : 0 ≤ y) (hy1 : y ≤ 255) (hne : y ≠ x) : sumI (l.set i y) ≠ sumI l :=
  fun h => hne (sumFrom_set l 1 i x y (by omega) (by omega) hx hx0 hx1 hy0 hy1 h)

theorem still_of {P : Program} {f : FuncId} {args : Array Value} {w : World} {v : Value} (h : Calls P f args w fun e w' => e = .returned v ∧ w = w') : Calls P f args w fun e w' => e = .returned v ∧ w' = w :=
  h.mono fun _ _ ⟨he, hm⟩ => ⟨he, hm.symm⟩

theorem lawFnFrmSum (a : Option Addr) (n cap : Nat) (zs : List Int) (a' : Option Addr) (n' cap' : Nat) (zs' : List Int) (w : World) (hr : Rd w a n 1 (ints .u8 zs)) (hz : Bs zs) (hc : n ≤ cap ∧ cap ≤ maxLen)
    (hr' : Rd w a' n' 1 (ints .u8 zs')) (hz' : Bs zs') (hc' : n' ≤ cap' ∧ cap' ≤ maxLen) :
    Calls Try.prog 7 #[.slice a n cap, .slice a' n' cap'] w fun e w' => e = .returned (.bool true) ∧ Grew w w' := by
  have HR := Lib.hid hr; clear hr
  have HZ := Lib.hid hz; clear hz
  have HR' := Lib.hid hr'; clear hr'
  have HZ' := Lib.hid hz'; clear hz'
  have HC := Lib.hid hc
  have HC' := Lib.hid hc'
  obtain ⟨hc1, hc2⟩ := hc
  obtain ⟨hc3, hc4⟩ := hc'
  unfold maxLen at hc2 hc4
  by_cases hbig : 1048576 < n
  · have hb : decide ((1048576 : Int) < (n : Int)) = true := by simp; omega
    go_enter Try.func7, Try.ntmps7
    go_wp2
    go_ret
    exact ⟨rfl, Below.refl _ _⟩
  · have hb : decide ((1048576 : Int) < (n : Int)) = false := by simp; omega
    by_cases hbig' : 1048576 < n'
    · have hb' : (1048576 : Int) < (n' : Int) := by omega
      clear hbig
      go_enter Try.func7, Try.ntmps7
      go_wp2
      go_ret
      exact ⟨rfl, Below.refl _ _⟩
    · have hb' : ¬ (1048576 : Int) < (n' : Int) := by omega
      clear hbig hbig' hc1 hc2 hc3 hc4
      obtain ⟨w0, rfl⟩ : ∃ w0, w0 = w := ⟨_, rfl⟩
      go_enter Try.func7, Try.ntmps7
      go_wp2_with fail
      refine (DrawFrmSum _ _ _ _ _ HR.out HZ.out HC.out).mono ?_
      rintro e w1 ⟨v1, m, ys, rfl, hys, hm, o1, b1⟩
      obtain ⟨a1, c1, rfl⟩ := owns_slice o1
      have HY := Lib.hid hys; clear hys
      have O1 := Lib.hid o1; clear o1
      have B1 := Lib.hid b1; clear b1
      go_wp2_with fail
      refine (DrawInputs _ _ _ _ _ (HR'.out.grew B1.out) HZ'.out HC'.out).mono ?_
      rintro e w2 ⟨x, v2, us, rfl, ⟨hx1, hx2⟩, -, -, b2⟩
      have O2 := Lib.hid (owns_grew O1.out b2); clear O1
      have B2 := Lib.hid (B1.out.trans (b2.mono B1.out.size)); clear B1 b2
      have R2 := Lib.hid (owns_rd O2.out)
      go_wp2_with fail
      refine (implFrmSum _ _ _ _ _ R2.out HY.out (by omega)).mono ?_
      rintro e w' ⟨rfl, rfl⟩
      have hS := sumI_lt ys
      obtain ⟨S, hSe⟩ : ∃ S, sumI ys = S := ⟨_, rfl⟩
      rw [hSe]
      rw [hSe] at hS
      obtain ⟨hS0, hS1⟩ := hS
      have HS := Lib.hid hSe; clear hSe
      go_wp2_with fail
      refine (specFrmSum _ _ _ _ _ R2.out HY.out (by omega)).mono ?_
      rintro e w' ⟨rfl, rfl⟩
      rw [HS.out]
      by_cases hm0 : m = 0
      · subst hm0
        have hl := R2.out.len1
        have hys : ys = [] := List.eq_nil_of_length_eq_zero hl
        have hS2 : S = 1 := by rw [← HS.out, hys]; rfl
        have hS3 : (S == 1) = true := by simp [hS2]
        clear hS2 hys hl
        go_wp2
        go_ret
        exact ⟨rfl, B2.out⟩
      · have hm1 : ((m : Int) == 0) = false := by simp; omega
        have hmp : 1 ≤ m := by omega
        clear hm0
        obtain ⟨v3, w3, hrun3, o3, g3, -⟩ := owns_append (P := Try.prog) (w2.alloc (.cells #[] 5)) byteEl (World.ownsRow_lit w2 #[] 0 (base := w2.heap.size) (Nat.le_refl _) (Nat.zero_le _) rfl) a1 m c1 _
          (R2.out.grew ((Below.refl _ _).alloc (Nat.le_refl _) (.cells #[] 5))) (ints_one _ _) (by omega) (by omega) (by simp)
        simp only [Nat.zero_add, List.nil_append] at o3
        obtain ⟨g, hg⟩ : ∃ g, v3.ownBlock = some g := by
          obtain ⟨ax, cx, rfl, _, _, _, _, hnone⟩ := owns_form o3
          cases ax with
          | none => have := (hnone rfl).1; omega
          | some x => exact ⟨_, rfl⟩
        obtain ⟨c3, rfl⟩ : ∃ c3, v3 = .slice (some ⟨g, 0, none⟩) m c3 := by
          rcases o3.2 with ⟨rfl, _⟩ | ⟨g', c', cur, rfl, _⟩
          · simp [Value.ownBlock] at hg
          · simp [Value.ownBlock] at hg
            subst hg
            exact ⟨_, rfl⟩
        have hgb := (o3.lt g hg).1
        have B3 := Lib.hid (((Below.refl w2.heap.size w2).alloc (Nat.le_refl _) (.cells #[] 5)).grown g3 (by simp) (fun j hj => by simp [Value.ownBlock] at hj; omega))
        have R3 := Lib.hid hrun3; clear hrun3
        have O3 := Lib.hid o3; clear o3 g3 hg
        have B4 := Lib.hid (B2.out.trans (B3.out.mono B2.out.size)); clear B3
        go_wp2_with (at_builtin; refine wpList_append_run rfl _ _ rfl rfl rfl rfl R3.out ?_)
        refine (owNorm x (by omega) (by omega) _).mono ?_
        rintro e w' ⟨rfl, rfl⟩
        obtain ⟨k, hk, hkm⟩ : ∃ k : Nat, x % 65536 % (m : Int) = (k : Int) ∧ k < m := by
          have h1 := Int.emod_nonneg (x % 65536) (show (m : Int) ≠ 0 by omega)
          have h2 := Int.emod_lt_of_pos (x % 65536) (show (0 : Int) < (m : Int) by omega)
          exact ⟨(x % 65536 % (m : Int)).toNat, by omega, by omega⟩
        obtain ⟨p, hp⟩ : ∃ p, x % 65536 = p := ⟨_, rfl⟩
        have hp0 : 0 ≤ p := by omega
        have hp1 : p < 65536 := by omega
        rw [hp]
        rw [hp] at hk
        clear hp
        go_wp2_with fail
        rw [hk]
        obtain ⟨y0, hy0⟩ : ∃ y, ys[k]? = some y := ⟨ys[k]'(by have := R2.out.len1; omega), List.getElem?_eq_getElem _⟩
        obtain ⟨yb0, yb1⟩ := HY.out _ _ hy0
        have hck : w3.cell? ⟨g, k, none⟩ = some (.int .u8 y0) := by rw [O3.out.cellAt k (by omega), ints_get hy0]
        have hfk : w3.frozen? ⟨g, k, none⟩ = false := O3.out.frozenAt k
        obtain ⟨t, ht, ht0, ht1⟩ : ∃ t, IntKind.i64.wrap (x.tdiv 7) = t ∧ -9223372036854775808 ≤ t ∧ t ≤ 9223372036854775807 := ⟨_, rfl, by rw [IntKind.wrap_i64]; omega, by rw [IntKind.wrap_i64]; omega⟩
        obtain ⟨u, hu⟩ : ∃ u, t % 65536 = u := ⟨_, rfl⟩
        have hu0 : 0 ≤ u := by omega
        have hu1 : u < 65536 := by omega
        have HU : Hid (∀ W, Calls Try.prog 26 #[.int .i64 t] W fun e w' => e = .returned (.int .i64 u) ∧ w' = W) := fun W => by
          have h := still_of (owNorm t ht0 ht1 W)
          rwa [hu] at h
        clear hu
        obtain ⟨y1, hy1, yc0, yc1, hyne⟩ := xor_u8 y0 (1 + u % 255) yb0 yb1 (by omega) (by omega)
        have HNE := Lib.hid hyne; clear hyne
        have HY0 := Lib.hid hy0; clear hy0
        have HK := Lib.hid hk; clear hk
        have hkm' : (k : Int) < (m : Int) := by omega
        have hk0 : (0 : Int) ≤ (k : Int) := by omega
        refine wp_region_still_tail 14 (by kernel_rfl) (by kernel_rfl) ?_
        simp only [List.take_succ_cons, List.take_zero, List.drop_succ_cons, List.drop_zero]
        repeat still_step
        still_call (HU.out _)
        repeat still_step
        try refine wpStill_nil ?_
        change wpList _ _ _ _ _ w3.drew
        go_wp2_with fail
        obtain ⟨o4, g4⟩ := O3.out.stored k (.int .u8 y1)
        rw [ints_set'] at o4
        have r4 := (owns_rd o4).grew (grew_drewN _ 1)
        have hlen : (ys.set k y1).length = m := by rw [List.length_set]; exact R2.out.len1
        have hne : sumI (ys.set k y1) ≠ S := by
          rw [← HS.out]
          exact sumI_set HY0.out yb0 yb1 yc0 yc1 HNE.out
        obtain ⟨S', hS'⟩ : ∃ S', sumI (ys.set k y1) = S' := ⟨_, rfl⟩
        have hSS : (S' != S) = true := by rw [← hS']; simpa using hne
        have hc5 := implFrmSum (some ⟨g, 0, none⟩) m c3 (ys.set k y1) _ r4 (bs_set HY.out k y1 yc0 yc1) (by omega)
        rw [hS'] at hc5
        have C5 := Lib.hid hc5; clear hc5 hS' hne r4
        have hbf : Below w0.heap.size w0 (w3.setCell ⟨g, k, none⟩ (.int .u8 y1)).drew := by
          have h1 := B2.out.size
          exact ((B4.out.setCell (p := ⟨g, k, none⟩) (by show w0.heap.size ≤ g; omega) _).drew)
        have BF := Lib.hid hbf; clear hbf g4 o4
        refine C5.out.mono ?_
        rintro e w' ⟨rfl, rfl⟩
        go_wp2
        go_ret
        exact ⟨rfl, BF.out⟩
end Go.Proofs.Ytpnjkjpdfkkdkaa
