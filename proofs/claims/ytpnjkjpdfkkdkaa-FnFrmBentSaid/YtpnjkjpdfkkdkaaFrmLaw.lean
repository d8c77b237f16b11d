/- Plain laws of frames. No condition. -/
import Derived.Test.YtpnjkjpdfkkdkaaDrawV
namespace Go.Proofs.Ytpnjkjpdfkkdkaa
open Go.RowKit
set_option linter.unusedVariables false

theorem getD_get {zs : List Int} {i : Nat} (h : i < zs.length) : zs.getD i 0 = zs[i] := by
  rw [List.getD_eq_getElem?_getD, List.getElem?_eq_getElem h]
  rfl

/-- A list is what it begins with, two more, and the rest. -/
theorem take_two {zs : List Int} {k : Nat} (h : k + 2 ≤ zs.length) : zs.take (k + 2) = zs.take k ++ [zs.getD k 0, zs.getD (k + 1) 0] := by
  rw [getD_get (show k < zs.length by omega), getD_get (show k + 1 < zs.length by omega)]
  rw [List.take_succ_eq_append_getElem (by omega), List.take_succ_eq_append_getElem (by omega), List.append_assoc]
  rfl

theorem twoB_of {x y : Int} (hx0 : 0 ≤ x) (hy0 : 0 ≤ y) (hy1 : y ≤ 255) : twoB (x * 256 + y) = [x, y] := by
  simp only [twoB]
  rw [show (x * 256 + y) / 256 = x by omega, show (x * 256 + y) % 256 = y by omega]

theorem frmTake_yes {zs : List Int} (hz : Bs zs) {x : List Int} {n : Int} (h : frmTake zs = (x, n, true)) :
    ∃ k : Nat, n = k ∧ k ≤ zs.length ∧ k = x.length + 4 ∧ x.length ≤ 2000 ∧ Bs x ∧ frmPut x = zs.take k := by
  unfold frmTake at h
  by_cases hg : frmGood zs = true
  · rw [if_pos hg] at h
    simp only [frmGood, Bool.and_eq_true, decide_eq_true_eq] at hg
    obtain ⟨⟨⟨h4, hL⟩, hlen⟩, hsum⟩ := hg
    generalize hLe : frmLong zs = L at *
    have hxe : x = (zs.drop 2).take L := (Prod.mk.inj h).1.symm
    have hne : n = (L : Int) + 4 := (Prod.mk.inj (Prod.mk.inj h).2).1.symm
    have hxl : x.length = L := by rw [hxe]; simp; omega
    refine ⟨L + 4, by omega, by omega, by omega, by omega, ?_, ?_⟩
    · rw [hxe]; exact bs_take (bs_drop hz 2) L
    · have b0 := hz 0 (zs.getD 0 0) (by rw [getD_get (show 0 < zs.length by omega)]; exact List.getElem?_eq_getElem _)
      have b1 := hz 1 (zs.getD 1 0) (by rw [getD_get (show 1 < zs.length by omega)]; exact List.getElem?_eq_getElem _)
      have b2 := hz (L + 2) (zs.getD (L + 2) 0) (by rw [getD_get (show L + 2 < zs.length by omega)]; exact List.getElem?_eq_getElem _)
      have b3 := hz (L + 3) (zs.getD (L + 3) 0) (by rw [getD_get (show L + 3 < zs.length by omega)]; exact List.getElem?_eq_getElem _)
      have hLi : (L : Int) = zs.getD 0 0 * 256 + zs.getD 1 0 := by
        have := hLe
        unfold frmLong at this
        omega
      have hhead : twoB L = zs.take 2 := by
        rw [hLi, twoB_of b0.1 b1.1 b1.2]
        have := take_two (zs := zs) (k := 0) (by omega)
        simpa using this.symm
      have hpre : twoB L ++ x = zs.take (L + 2) := by
        rw [hhead, hxe, Nat.add_comm L 2, List.take_add]
      have hf : frmPut x = (twoB x.length ++ x) ++ twoB (sumI (twoB x.length ++ x)) := if_neg (by omega)
      rw [hf, hxl, hpre, ← hsum, twoB_of b2.1 b3.1 b3.2]
      exact (take_two (by omega)).symm
  · rw [if_neg hg] at h
    cases h

theorem frmTake_put {body : List Int} (hz : Bs body) (hl : body.length ≤ 2000) (rest : List Int) : frmTake (frmPut body ++ rest) = (body, (body.length : Int) + 4, true) := by
  have hf : frmPut body = (twoB body.length ++ body) ++ twoB (sumI (twoB body.length ++ body)) := if_neg (by omega)
  have hS := sumI_lt (twoB body.length ++ body)
  generalize hSe : sumI (twoB body.length ++ body) = S at *
  have hfl : (frmPut body).length = body.length + 4 := by rw [hf]; simp [twoB]
  have hform : frmPut body ++ rest = ((body.length : Int) / 256) :: ((body.length : Int) % 256) :: (body ++ ((S / 256) :: (S % 256) :: rest)) := by
    rw [hf]
    simp [twoB]
  have e0 : (frmPut body ++ rest).getD 0 0 = (body.length : Int) / 256 := by rw [hform]; rfl
  have e1 : (frmPut body ++ rest).getD 1 0 = (body.length : Int) % 256 := by rw [hform]; rfl
  have hL : frmLong (frmPut body ++ rest) = body.length := by
    unfold frmLong
    rw [e0, e1]
    omega
  have e2 : (frmPut body ++ rest).getD (body.length + 2) 0 = S / 256 := by
    rw [hform, List.getD_eq_getElem?_getD, List.getElem?_cons_succ, List.getElem?_cons_succ, List.getElem?_append_right (Nat.le_refl _), Nat.sub_self]
    rfl
  have e3 : (frmPut body ++ rest).getD (body.length + 3) 0 = S % 256 := by
    rw [hform, List.getD_eq_getElem?_getD, List.getElem?_cons_succ, List.getElem?_cons_succ, List.getElem?_append_right (by omega), show body.length + 1 - body.length = 1 by omega]
    rfl
  have e4 : (frmPut body ++ rest).take (body.length + 2) = twoB body.length ++ body := by
    rw [hf, List.append_assoc, List.append_assoc, ← List.append_assoc (twoB _) body]
    rw [show body.length + 2 = (twoB body.length ++ body).length by simp [twoB]]
    exact List.take_left
  have hg : frmGood (frmPut body ++ rest) = true := by
    simp only [frmGood, Bool.and_eq_true, decide_eq_true_eq, hL, e2, e3, e4, hSe]
    refine ⟨⟨⟨?_, hl⟩, ?_⟩, ?_⟩
    · rw [List.length_append]; omega
    · rw [List.length_append]; omega
    · omega
  unfold frmTake
  rw [if_pos hg, hL]
  have e5 : ((frmPut body ++ rest).drop 2).take body.length = body := by
    rw [hform]
    simp
  rw [e5]
end Go.Proofs.Ytpnjkjpdfkkdkaa
