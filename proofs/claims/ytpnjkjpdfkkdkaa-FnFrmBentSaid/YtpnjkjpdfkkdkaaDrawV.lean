/- The drawn input for frames that are taken. No condition. -/
import Derived.Test.YtpnjkjpdfkkdkaaDrawZ
namespace Go.Proofs.Ytpnjkjpdfkkdkaa
open Go.RowKit
set_option linter.unusedVariables false

theorem owns_short {w : World} {base : Nat} {e : TypeId} {g n k cap : Nat} {zs : List Int} (h : w.ownsRow base e 1 (.slice (some ⟨g, 0, none⟩) n cap) n (ints .u8 zs)) (hk : k ≤ n) :
    w.ownsRow base e 1 (.slice (some ⟨g, 0, none⟩) k cap) k (ints .u8 (zs.take k)) := by
  have hl := (owns_rd h).len1
  refine ⟨by simp [ints]; omega, ?_⟩
  rcases h.2 with ⟨h1, _⟩ | ⟨g', cap', cur, h1, hb, hg, hnc, hcm, hcs, ht⟩
  · simp at h1
  · simp only [Value.slice.injEq, Option.some.injEq, Addr.mk.injEq, and_true, true_and] at h1
    obtain ⟨rfl, rfl⟩ := h1
    refine .inr ⟨g, cap, cur, rfl, hb, hg, by omega, hcm, hcs, ?_⟩
    have : ints .u8 (zs.take k) = (ints .u8 zs).take k := by simp [ints, List.map_take]
    rw [this, ← ht, List.take_take]
    congr 1
    omega

theorem bs_frmPut {zs : List Int} (h : Bs zs) : Bs (frmPut zs) := by
  unfold frmPut
  split
  · exact bs_nil
  · have h1 := sumI_lt (twoB zs.length ++ zs)
    exact bs_app (bs_app (bs_twoB _ (by omega) (by omega)) h) (bs_twoB _ (by omega) (by omega))
theorem frmPut_len (zs : List Int) : (frmPut zs).length ≤ 2004 := by
  unfold frmPut
  split
  · simp
  · simp [twoB]; omega

/-- Bytes of the call's own were returned, `L` at most. -/
def RetOwn (base L : Nat) (w : World) (e : Ending) (w' : World) : Prop :=
  ∃ v n zs, e = .returned v ∧ Bs zs ∧ n ≤ L ∧ w'.ownsRow base 5 1 v n (ints .u8 zs) ∧ Grew w w'

set_option maxHeartbeats 1000000 in
theorem DrawFrmTake (a : Option Addr) (n cap : Nat) (zs : List Int) (w : World) (hr : Rd w a n 1 (ints .u8 zs)) (hz : Bs zs) (hc : n ≤ cap ∧ cap ≤ maxLen) :
    Calls Try.prog 34 #[.slice a n cap] w (RetOwn w.heap.size 2030 w) := by
  have HR := Lib.hid hr; clear hr
  have HZ := Lib.hid hz; clear hz
  go_enter Try.func34, Try.ntmps34
  go_wp2_with fail
  refine (l20Open _ _ _ _ _ HR.out HZ.out hc).mono ?_
  rintro e w1 ⟨rfl, h1, h2⟩
  have H1 := Lib.hid h1; clear h1
  have B1 := Lib.hid h2; clear h2
  obtain ⟨g, hg⟩ : ∃ g, g = w.heap.size := ⟨_, rfl⟩
  have HG : Hid (w.heap.size = g) := hg.symm
  rw [← hg] at H1 ⊢
  clear hg
  go_wp2_with fail
  refine (l21Body g 0 16 _ H1.out (by omega) (by omega)).mono ?_
  rintro e w2 ⟨v2, n2, zs2, rfl, hz2, hn2, ho2, hr2, hc2⟩
  obtain ⟨a2, c2, rfl⟩ := owns_slice ho2
  have Z2 := Lib.hid hz2; clear hz2
  have R2 := Lib.hid hr2; clear hr2
  have O2 := Lib.hid ho2; clear ho2
  have B2 := Lib.hid (B1.out.trans (hc2.belowB B1.out.size (fun k hk => by have := HG.out; omega))); clear hc2
  go_wp2_with fail
  refine (specFrmPut _ _ _ _ _ (owns_rd O2.out) Z2.out (by omega)).mono ?_
  rintro e w3 ⟨v3, rfl, o3, b3⟩
  have Z3 := Lib.hid (bs_frmPut Z2.out)
  have hlen := frmPut_len zs2
  generalize (frmPut zs2).length = m at *
  generalize frmPut zs2 = ys at *
  obtain ⟨a3, c3, rfl⟩ := owns_slice o3
  have NG : Hid (∀ b, (Value.slice a3 m c3).ownBlock = some b → g < b) := Lib.hid (fun b hb => by have := (o3.lt b hb).1; have := R2.out.lt; omega)
  have hcap := owns_cap o3
  have D3 := Lib.hid (R2.out.grew b3)
  have O3 := Lib.hid (owns_mono o3 B2.out.size); clear o3
  have B3 := Lib.hid (B2.out.trans (b3.mono B2.out.size)); clear b3
  have HCAP := Lib.hid hcap
  obtain ⟨hcap1, hcap2⟩ := hcap
  unfold maxLen at hcap2
  clear O2 R2 B2
  have HLEN := Lib.hid hlen
  have hlen' : (m : Int) ≤ 2004 := by omega
  clear hlen hn2
  go_wp2_with fail
  refine (pickLe g 43 _ _ D3.out (by omega) (by omega)).mono ?_
  rintro e w4 ⟨v, rfl, ⟨h4, h5⟩, h6, h7⟩
  have h5 := h5 (by omega)
  have D4 := Lib.hid h6; clear h6
  have O4 := Lib.hid (owns_chg O3.out h7 (fun b hb e => by have := NG.out b hb; omega))
  have B4 := Lib.hid (B3.out.trans (h7.belowB B3.out.size (fun k hk => by have := HG.out; omega))); clear h7
  clear O3 D3 B3
  have hv : v = 0 ∨ v = 1 ∨ v = 2 ∨ v = 3 := by omega
  rcases hv with rfl | rfl | rfl | rfl
  · go_wp2_with fail
    refine (l21Bytes g 44 _ D4.out (by omega)).mono ?_
    rintro e w5 ⟨v5, n5, zs5, rfl, hz5, hn5, ho5, hr5, hc5⟩
    obtain ⟨a5, c5, rfl⟩ := owns_slice ho5
    have ho4 := owns_chg O4.out hc5 (fun b hb e => by have := NG.out b hb; omega)
    have B5 := Lib.hid (B4.out.trans (hc5.belowB B4.out.size (fun k hk => by have := HG.out; omega)))
    obtain ⟨v6, w6, hrun6, o6, g6, -⟩ := owns_append (P := Try.prog) w5 byteEl ho4 a5 n5 c5 _ (owns_rd ho5) (ints_one _ _) (by omega) (by omega) B5.out.size
    have B6 := Lib.hid (B5.out.grown g6 B5.out.size (fun k hk => (ho4.lt k hk).1))
    rw [← ints_append] at o6
    have R6 := Lib.hid hrun6; clear hrun6
    have O6 := Lib.hid o6; clear o6 g6 ho4 ho5 hr5 hc5
    have Z6 := Lib.hid (bs_app Z3.out hz5); clear hz5
    go_wp2_with (at_builtin; refine wpList_append_run rfl _ _ rfl rfl rfl rfl R6.out ?_)
    go_ret
    exact ⟨_, _, _, rfl, Z6.out, by have := HLEN.out; omega, O6.out, B6.out⟩
  · go_wp2_with fail
    refine (l21Turn g 44 a3 m c3 ys _ D4.out (by omega) (owns_rd O4.out) Z3.out HCAP.out (by omega) (fun x e => by subst e; have := NG.out x.block rfl; omega)).mono ?_
    rintro e w5 ⟨v5, n5, zs5, rfl, hz5, hn5, ho5, hr5, hc5⟩
    have B5 := Lib.hid (B4.out.trans (hc5.belowB B4.out.size (fun k hk => by have := HG.out; omega)))
    have O5 := Lib.hid (owns_mono ho5 B4.out.size)
    have Z5 := Lib.hid hz5
    clear hz5 ho5 hr5 hc5
    go_wp2
    go_ret
    exact ⟨_, _, _, rfl, Z5.out, by have := HLEN.out; omega, O5.out, B5.out⟩
  · have hw : IntKind.i64.wrap ((m : Int) + 1) = (m : Int) + 1 := IntWalk.i64_in _ (by omega)
    go_wp2_with fail
    refine (pickLe g 44 _ _ D4.out (by omega) (by omega)).mono ?_
    rintro e w5 ⟨u, rfl, ⟨u0, u1⟩, h6, h7⟩
    have u1 := u1 (by omega)
    have O5 := Lib.hid (owns_chg O4.out h7 (fun b hb e => by have := NG.out b hb; omega))
    have B5 := Lib.hid (B4.out.trans (h7.belowB B4.out.size (fun k hk => by have := HG.out; omega)))
    clear h6 h7 O4 B4
    obtain ⟨k, rfl⟩ := Int.eq_ofNat_of_zero_le u0
    have hkm : k ≤ m := by omega
    rcases a3 with _ | x3
    · obtain ⟨rfl, hy⟩ : m = 0 ∧ c3 = 0 := by
        rcases O5.out.2 with ⟨e1, e2⟩ | ⟨_, _, _, e1, _⟩
        · simp at e1; exact ⟨e2, e1.2⟩
        · simp at e1
      obtain rfl : k = 0 := by omega
      subst hy
      go_wp2
      go_ret
      exact ⟨_, _, _, rfl, Z3.out, by omega, O5.out, B5.out⟩
    · obtain ⟨g3, rfl⟩ : ∃ g3, x3 = ⟨g3, 0, none⟩ := by
        rcases O5.out.2 with ⟨e1, e2⟩ | ⟨g3, _, _, e1, _⟩
        · simp at e1
        · simp at e1; exact ⟨g3, e1.1⟩
      have O6 := Lib.hid (owns_short O5.out hkm)
      have Z6 := Lib.hid (bs_take Z3.out k)
      have k1 : (k : Int) ≤ (c3 : Int) := by omega
      have k2 : k ≤ c3 := by omega
      go_wp2
      go_ret
      exact ⟨_, _, _, rfl, Z6.out, by have := HLEN.out; omega, O6.out, B5.out⟩
  · go_wp2
    go_ret
    exact ⟨_, _, _, rfl, Z3.out, by have := HLEN.out; omega, O4.out, B4.out⟩
end Go.Proofs.Ytpnjkjpdfkkdkaa
