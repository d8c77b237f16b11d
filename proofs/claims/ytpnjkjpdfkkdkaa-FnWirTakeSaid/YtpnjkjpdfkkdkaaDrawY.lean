/- Contracts of the drawn inputs for numbers that are taken. No condition. -/
import Derived.Test.YtpnjkjpdfkkdkaaDrawX
namespace Go.Proofs.Ytpnjkjpdfkkdkaa
open Go.RowKit
set_option linter.unusedVariables false

theorem bs_255 : Bs [255, 255, 255] := by
  intro i x h
  match i, h with
  | 0, h => obtain rfl := Option.some.inj h; omega
  | 1, h => obtain rfl := Option.some.inj h; omega
  | 2, h => obtain rfl := Option.some.inj h; omega
  | (_ + 3), h => simp at h

theorem bs_wirPut {zs : List Int} (h : Bs zs) (m : Int) : Bs (wirPut zs m) := by
  unfold wirPut
  split
  · rename_i hm
    refine bs_app h ?_
    intro i x hx
    match i, hx with
    | 0, hx => obtain rfl := Option.some.inj hx; omega
    | 1, hx => obtain rfl := Option.some.inj hx; omega
    | 2, hx => obtain rfl := Option.some.inj hx; omega
    | (_ + 3), hx => simp [wirB] at hx
  · exact h
theorem wirPut_len (zs : List Int) (m : Int) : (wirPut zs m).length ≤ zs.length + 3 := by
  unfold wirPut
  split
  · simp [wirB]
  · omega

set_option maxHeartbeats 1000000 in
theorem DrawWirTake (a : Option Addr) (n cap : Nat) (zs : List Int) (w : World) (hr : Rd w a n 1 (ints .u8 zs)) (hz : Bs zs) (hc : n ≤ cap ∧ cap ≤ maxLen) :
    Calls Try.prog 32 #[.slice a n cap] w fun e w' => ∃ v n zs x, e = .returned (.tuple #[v, .int .i64 x]) ∧ Bs zs ∧ n ≤ 26 ∧ I64 x ∧ w'.ownsRow w.heap.size 5 1 v n (ints .u8 zs) ∧ Grew w w' := by
  have HR := Lib.hid hr; clear hr
  have HZ := Lib.hid hz; clear hz
  go_enter Try.func32, Try.ntmps32
  go_wp2_with fail
  refine (l20Open _ _ _ _ _ HR.out HZ.out hc).mono ?_
  rintro e w1 ⟨rfl, h1, h2⟩
  have H1 := Lib.hid h1; clear h1
  have B1 := Lib.hid h2; clear h2
  obtain ⟨g, hg⟩ : ∃ g, g = w.heap.size := ⟨_, rfl⟩
  have HG : Hid (w.heap.size = g) := hg.symm
  rw [← hg] at H1 ⊢
  clear hg
  go_wp2_with fail
  refine (l21Bytes g 0 _ H1.out (by omega)).mono ?_
  rintro e w2 ⟨v2, n2, zs2, rfl, hz2, hn2, ho2, hr2, hc2⟩
  obtain ⟨a2, c2, rfl⟩ := owns_slice ho2
  have Z2 := Lib.hid hz2; clear hz2
  have O2 := Lib.hid ho2; clear ho2
  have R2 := Lib.hid hr2; clear hr2
  have B2 := Lib.hid (B1.out.trans (hc2.belowB B1.out.size (fun k hk => by have := HG.out; omega))); clear hc2
  go_wp2_with fail
  refine (l20Num g 41 _ R2.out (by omega)).mono ?_
  rintro e w3 ⟨x3, rfl, ⟨x30, x31⟩, hr3, hc3⟩
  have O3 := Lib.hid (owns_chg O2.out hc3 (fun b hb e => by have := (O2.out.lt b hb).1; have := H1.out.lt; omega))
  have R3 := Lib.hid hr3; clear hr3
  have B3 := Lib.hid (B2.out.trans (hc3.belowB B2.out.size (fun k hk => by have := HG.out; omega))); clear hc3
  go_wp2_with fail
  refine (specWirPut _ _ _ _ x3 _ (owns_rd O3.out) (by omega)).mono ?_
  rintro e w4 ⟨v4, rfl, o4, b4⟩
  obtain ⟨a4, c4, rfl⟩ := owns_slice o4
  have Z3 := Lib.hid (bs_wirPut Z2.out x3)
  have hlen : (wirPut zs2 x3).length ≤ 23 := by
    have h1 := wirPut_len zs2 x3
    have h2 := (owns_rd O3.out).len1
    omega
  have D4 := Lib.hid (R3.out.grew b4)
  have NG : Hid (∀ b, (Value.slice a4 (wirPut zs2 x3).length c4).ownBlock = some b → g < b) := Lib.hid (fun b hb => by have := (o4.lt b hb).1; have := R3.out.lt; omega)
  have O4 := Lib.hid (owns_mono o4 B3.out.size); clear o4
  have B4 := Lib.hid (B3.out.trans (b4.mono B3.out.size)); clear b4
  clear O2 O3 R2 R3 B2 B3
  generalize (wirPut zs2 x3).length = m at *
  generalize wirPut zs2 x3 = ys at *
  go_wp2_with fail
  refine (odd g 44 _ _ D4.out (by omega) (by omega)).mono ?_
  rintro e w5 ⟨b1, rfl, hr, hc⟩
  have O5 := Lib.hid (owns_chg O4.out hc (fun b hb e => by have := NG.out b hb; omega))
  have B5 := Lib.hid (B4.out.trans (hc.belowB B4.out.size (fun k hk => by have := HG.out; omega)))
  have D5 := Lib.hid hr
  clear hr hc O4 D4 B4
  cases b1
  · go_wp2_with fail
    refine (odd g 45 _ _ D5.out (by omega) (by omega)).mono ?_
    rintro e w6 ⟨b2, rfl, hr, hc⟩
    have O6 := Lib.hid (owns_chg O5.out hc (fun b hb e => by have := NG.out b hb; omega))
    have B6 := Lib.hid (B5.out.trans (hc.belowB B5.out.size (fun k hk => by have := HG.out; omega)))
    clear hr hc
    cases b2
    · go_wp2
      go_ret2
      exact ⟨_, _, _, _, rfl, Z3.out, by omega, by unfold I64; omega, O6.out, B6.out⟩
    · obtain ⟨v9, w9, hrun9, o9, g9, -⟩ := owns_append_lit (P := Try.prog) w6 byteEl O6.out 3 (ints .u8 [255, 255, 255]) rfl (ints_one _ _) (by omega) (by omega) B6.out.size
      obtain ⟨a9, c9, rfl⟩ := owns_slice o9
      have B9 := Lib.hid (B6.out.grown g9 B6.out.size (fun k hk => (O6.out.lt k hk).1))
      have R9 := Lib.hid hrun9; clear hrun9
      rw [← ints_append] at o9
      have O9 := Lib.hid o9; clear o9 g9
      go_wp2_with (at_builtin; refine wpList_append_run rfl _ _ rfl rfl rfl rfl R9.out ?_)
      go_ret2
      exact ⟨_, _, _, _, rfl, bs_app Z3.out bs_255, by omega, by unfold I64; omega, O9.out, B9.out⟩
  · go_wp2_with fail
    refine (pickLe g 45 _ _ (D5.out.grew ((Below.refl _ _).alloc (Nat.le_refl _) _)) (by omega) (by omega)).mono ?_
    rintro e w7 ⟨u, rfl, ⟨u0, u1⟩, h2, h3⟩
    have u1 := u1 (by omega)
    obtain ⟨y, hy, hcell⟩ := lit_cell [-1, 0, (m : Int) - 2, 9223372036854775807, -9223372036854775808] h3 (by have := D5.out.lt; omega) u0 u1
    have hyb : -9223372036854775808 ≤ y ∧ y ≤ 9223372036854775807 := by
      simp at hy
      omega
    obtain ⟨yb0, yb1⟩ := hyb
    have D7 := Lib.hid h2; clear h2
    have O7 := Lib.hid (owns_chg (owns_grew O5.out ((Below.refl _ _).alloc (Nat.le_refl _) _)) h3 (fun b hb e => by have := NG.out b hb; omega))
    have B7 := Lib.hid (((B5.out.alloc B5.out.size _)).trans (h3.belowB (by simp; have := B5.out.size; omega) (fun k hk => by have := HG.out; omega)))
    clear h3 hy O5 D5 B5
    go_wp2_with fail
    refine (odd g 46 _ _ D7.out (by omega) (by omega)).mono ?_
    rintro e w8 ⟨b2, rfl, hr, hc⟩
    have O8 := Lib.hid (owns_chg O7.out hc (fun b hb e => by have := NG.out b hb; omega))
    have B8 := Lib.hid (B7.out.trans (hc.belowB B7.out.size (fun k hk => by have := HG.out; omega)))
    clear hr hc
    cases b2
    · go_wp2
      go_ret2
      exact ⟨_, _, _, _, rfl, Z3.out, by omega, by unfold I64; omega, O8.out, B8.out⟩
    · obtain ⟨v9, w9, hrun9, o9, g9, -⟩ := owns_append_lit (P := Try.prog) w8 byteEl O8.out 3 (ints .u8 [255, 255, 255]) rfl (ints_one _ _) (by omega) (by omega) B8.out.size
      obtain ⟨a9, c9, rfl⟩ := owns_slice o9
      have B9 := Lib.hid (B8.out.grown g9 B8.out.size (fun k hk => (O8.out.lt k hk).1))
      have R9 := Lib.hid hrun9; clear hrun9
      rw [← ints_append] at o9
      have O9 := Lib.hid o9; clear o9 g9
      go_wp2_with (at_builtin; refine wpList_append_run rfl _ _ rfl rfl rfl rfl R9.out ?_)
      go_ret2
      exact ⟨_, _, _, _, rfl, bs_app Z3.out bs_255, by omega, by unfold I64; omega, O9.out, B9.out⟩
end Go.Proofs.Ytpnjkjpdfkkdkaa
