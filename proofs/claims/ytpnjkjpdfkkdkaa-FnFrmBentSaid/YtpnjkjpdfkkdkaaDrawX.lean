/- Contracts of the drawn inputs whose statements leave their order open. No condition. -/
import Derived.Test.YtpnjkjpdfkkdkaaDrawW
import Derived.Deep.RegionWith
namespace Go.Proofs.Ytpnjkjpdfkkdkaa
open Go.RowKit
set_option linter.unusedVariables false

/-- Go's int. -/
def I64 (v : Int) : Prop := -9223372036854775808 ≤ v ∧ v ≤ 9223372036854775807

set_option maxHeartbeats 1000000 in
theorem DrawWirPut (a : Option Addr) (n cap : Nat) (zs : List Int) (w : World) (hr : Rd w a n 1 (ints .u8 zs)) (hz : Bs zs) (hc : n ≤ cap ∧ cap ≤ maxLen) :
    Calls Try.prog 31 #[.slice a n cap] w fun e w' => ∃ v n zs x, e = .returned (.tuple #[v, .int .i64 x]) ∧ Bs zs ∧ n ≤ 20 ∧ I64 x ∧ w'.ownsRow w.heap.size 5 1 v n (ints .u8 zs) ∧ Grew w w' := by
  have HR := Lib.hid hr; clear hr
  have HZ := Lib.hid hz; clear hz
  go_enter Try.func31, Try.ntmps31
  go_wp2_with fail
  refine (l20Open _ _ _ _ _ HR.out HZ.out hc).mono ?_
  rintro e w1 ⟨rfl, h1, h2⟩
  have H1 := Lib.hid h1; clear h1
  have H2 := Lib.hid h2; clear h2
  go_wp2_with fail
  go_region_with (first
    | (go_at_call 38; refine (l21Bytes _ 0 _ (H1.out.grew (grew_drewN _ 1)) (by omega)).mono ?_; rintro e w2 ⟨v2, n2, zs2, rfl, hz2, hn2, ho2, hr2, hc2⟩; have Z2 := Lib.hid hz2; have O2 := Lib.hid ho2; have R2 := Lib.hid hr2; have C2 := Lib.hid hc2; clear hz2 ho2 hr2 hc2)
    | (go_at_call 40; refine (l20Num _ 41 _ R2.out (by omega)).mono ?_; rintro e w3 ⟨x3, rfl, ⟨x30, x31⟩, hr3, hc3⟩; have R3 := Lib.hid hr3; have C3 := Lib.hid (C2.out.trans hc3); have O3 := Lib.hid (owns_chg O2.out hc3 (fun b hb e => by have := (O2.out.lt b hb).1; have := H2.out.size; have := H1.out.lt; simp at *; omega)); clear hr3 hc3)
    | (go_at_call 45; refine (pickLe _ 44 _ _ (by first | exact R3.out | exact R3.out.grew ((Below.refl _ _).alloc (Nat.le_refl _) _)) (by omega) (by omega)).mono ?_; rintro e w4 ⟨u4, rfl, ⟨u40, u41⟩, hr4, hc4⟩; have u41 := u41 (by omega); (first | (obtain ⟨y4, hy4, hcell4⟩ := lit_cell (w := w3) [0, 1, -1, 8000000, -8000000, 8000001, -8000001, 9223372036854775807, x3] hc4 (by have := R3.out.lt; omega) u40 u41) | (obtain ⟨y4, hy4, hcell4⟩ := lit_cell (w := w4) (F := fun _ => False) (e := 3) [0, 1, -1, 8000000, -8000000, 8000001, -8000001, 9223372036854775807, x3] (Chg.refl _ _) (fun h => h) u40 u41)); have Y4 := Lib.hid hy4; have C4 := Lib.hid hc4; clear hr4 hc4 hy4))
  · have hy : I64 y4 := by
      have h := Y4.out
      simp at h
      unfold I64
      omega
    have HY := Lib.hid hy; clear hy
    have BB : Hid (Grew w w4) := Lib.hid ((H2.out.trans (below_drewN (Below.refl _ _) 1)).trans (((C3.out.grew ((Below.refl _ _).alloc (Nat.le_refl _) _)).trans C4.out).belowB (by have := H2.out.size; simpa using this) (fun k hk => by omega)))
    have OO := Lib.hid (owns_mono (owns_chg (owns_grew O3.out ((Below.refl _ _).alloc (Nat.le_refl _) _)) C4.out (fun b hb e => by have := (O3.out.lt b hb).1; have := H2.out.size; have := H1.out.lt; simp at *; omega)) (show w.heap.size ≤ _ by have := H2.out.size; simpa using this))
    go_wp2
    go_ret2
    exact ⟨v2, n2, zs2, y4, rfl, Z2.out, hn2, HY.out, OO.out, BB.out⟩
  · clear hcell4 Y4
    have hu : u4 = 0 ∨ u4 = 1 ∨ u4 = 2 ∨ u4 = 3 ∨ u4 = 4 ∨ u4 = 5 ∨ u4 = 6 ∨ u4 = 7 ∨ u4 = 8 := by omega
    have BB : Hid (Grew w w4) := Lib.hid ((H2.out.trans (below_drewN (Below.refl _ _) 1)).trans ((C3.out.trans C4.out).belowB (by have := H2.out.size; simpa using this) (fun k hk => by omega)))
    have OO := Lib.hid (owns_mono (owns_chg O3.out C4.out (fun b hb e => by have := (O3.out.lt b hb).1; have := H2.out.size; have := H1.out.lt; simp at *; omega)) (show w.heap.size ≤ _ by have := H2.out.size; simpa using this))
    rcases hu with rfl | rfl | rfl | rfl | rfl | rfl | rfl | rfl | rfl
    all_goals
      go_wp2
      go_ret2
      refine ⟨v2, n2, zs2, _, rfl, Z2.out, hn2, ?_, OO.out.alloc _, BB.out.alloc BB.out.size _⟩
      unfold I64
      omega

end Go.Proofs.Ytpnjkjpdfkkdkaa
