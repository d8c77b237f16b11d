/- Plain laws of frames with one byte turned. No condition. -/
import Derived.Test.YtpnjkjpdfkkdkaaFrmLaw
import Derived.Test.YtpnjkjpdfkkdkaaLawC
namespace Go.Proofs.Ytpnjkjpdfkkdkaa
open Go.RowKit
set_option linter.unusedVariables false

/-- A frame's sum stands at its end. -/
theorem frm_good {body : List Int} (hz : Bs body) (hl : body.length ≤ 2000) :
    (frmPut body).length = body.length + 4 ∧ frmLong (frmPut body) = body.length ∧
      sumI ((frmPut body).take (body.length + 2)) = (frmPut body).getD (body.length + 2) 0 * 256 + (frmPut body).getD (body.length + 3) 0 := by
  have h := frmTake_put hz hl []
  rw [List.append_nil] at h
  unfold frmTake at h
  by_cases hg : frmGood (frmPut body) = true
  · rw [if_pos hg] at h
    simp only [frmGood, Bool.and_eq_true, decide_eq_true_eq] at hg
    obtain ⟨⟨⟨h4, hL⟩, hlen⟩, hsum⟩ := hg
    have hne := (Prod.mk.inj (Prod.mk.inj h).2).1
    have hlo : frmLong (frmPut body) = body.length := by omega
    rw [hlo] at hsum
    refine ⟨?_, hlo, hsum.symm⟩
    have hf : frmPut body = (twoB body.length ++ body) ++ twoB (sumI (twoB body.length ++ body)) := if_neg (by omega)
    rw [hf]
    simp [twoB]
  · rw [if_neg hg] at h
    cases h

theorem getD_set_ne' {zs : List Int} {i j : Nat} {y : Int} (h : i ≠ j) : (zs.set i y).getD j 0 = zs.getD j 0 := by
  rw [List.getD_eq_getElem?_getD, List.getD_eq_getElem?_getD, List.getElem?_set_ne h]
theorem getD_set_self' {zs : List Int} {i : Nat} {y : Int} (h : i < zs.length) : (zs.set i y).getD i 0 = y := by
  rw [List.getD_eq_getElem?_getD, List.getElem?_set_self h]; rfl

theorem frm_bent {body : List Int} (hz : Bs body) (hl : body.length ≤ 2000) {i : Nat} {x y : Int} (hx : (frmPut body)[i]? = some x) (hy0 : 0 ≤ y) (hy1 : y ≤ 255) (hne : y ≠ x)
    {b : List Int} {m : Int} (h : frmTake ((frmPut body).set i y) = (b, m, true)) : m ≠ (body.length : Int) + 4 := by
  intro hm
  obtain ⟨hfl, hlo, hsum⟩ := frm_good hz hl
  have hbf := bs_frmPut hz
  have hxb := hbf _ _ hx
  have hi : i < (frmPut body).length := (List.getElem?_eq_some_iff.1 hx).1
  unfold frmTake at h
  by_cases hg : frmGood ((frmPut body).set i y) = true
  · rw [if_pos hg] at h
    simp only [frmGood, Bool.and_eq_true, decide_eq_true_eq] at hg
    obtain ⟨⟨⟨h4, hL⟩, hlen⟩, hs⟩ := hg
    have hne' := (Prod.mk.inj (Prod.mk.inj h).2).1
    have hlo' : frmLong ((frmPut body).set i y) = body.length := by omega
    rw [hlo'] at hs
    generalize frmPut body = f at *
    have b2 := hbf (body.length + 2) (f.getD (body.length + 2) 0) (by rw [getD_get (show body.length + 2 < f.length by omega)]; exact List.getElem?_eq_getElem _)
    have b3 := hbf (body.length + 3) (f.getD (body.length + 3) 0) (by rw [getD_get (show body.length + 3 < f.length by omega)]; exact List.getElem?_eq_getElem _)
    have hxd : f.getD i 0 = x := by rw [List.getD_eq_getElem?_getD, hx]; rfl
    by_cases hc : i < body.length + 2
    · rw [getD_set_ne' (by omega), getD_set_ne' (by omega), List.take_set, ← hsum] at hs
      exact sumI_set (l := f.take (body.length + 2)) (i := i) (by rw [List.getElem?_take, if_pos hc]; exact hx) hxb.1 hxb.2 hy0 hy1 hne hs.symm
    · rw [List.take_set, List.set_eq_of_length_le (l := f.take (body.length + 2)) (by rw [List.length_take]; omega), hsum] at hs
      have hi2 : i = body.length + 2 ∨ i = body.length + 3 := by omega
      rcases hi2 with rfl | rfl
      · rw [getD_set_self' hi, getD_set_ne' (by omega)] at hs
        omega
      · rw [getD_set_self' hi, getD_set_ne' (by omega)] at hs
        omega
  · rw [if_neg hg] at h
    cases h

theorem frm_cut {body : List Int} (hz : Bs body) (hl : body.length ≤ 2000) {i : Nat} (hi : i < body.length + 4) : frmTake ((frmPut body).take i) = ([], 0, false) := by
  obtain ⟨hfl, hlo, hsum⟩ := frm_good hz hl
  unfold frmTake
  rw [if_neg]
  simp only [frmGood, Bool.and_eq_true, decide_eq_true_eq]
  rintro ⟨⟨⟨h4, hL⟩, hlen⟩, hs⟩
  rw [List.length_take] at h4 hlen
  have e : frmLong ((frmPut body).take i) = frmLong (frmPut body) := by
    unfold frmLong
    simp only [List.getD_eq_getElem?_getD, List.getElem?_take]
    rw [if_pos (by omega), if_pos (by omega)]
  rw [e, hlo] at hlen
  omega
end Go.Proofs.Ytpnjkjpdfkkdkaa
