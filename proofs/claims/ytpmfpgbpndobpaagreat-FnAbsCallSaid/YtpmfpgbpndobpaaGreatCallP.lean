/- What a call makes of a state that has what may be given: plain. No condition. -/
import Derived.Test.YtpmfpgbpndobpaaGreatLw
import Derived.Test.YtpmfpgbpndobpaaGreatOwQ
import Derived.Test.YtpmfpgbpndobpaaGreatStP
namespace Go.Proofs.YtpmfpgbpndobpaaGreat
open Go.RowKit
set_option linter.unusedVariables false
set_option linter.unusedSimpArgs false

theorem call_ok {ps : List Prc} {d ia to : Int} (hd : varB d = true) (ha : varB ia = true) (ht : 0 ≤ to) (ht2 : to < ps.length) : insOkB ⟨10, d, ia, 0, 0, 0, 0, to⟩ ps.length 10 = true := by
  simp only [insOkB, headB, formV, tailB, hd, ha]
  simp [varB, ht, ht2]
theorem call_step {ps : List Prc} {ss : List Sum} {d ia to pc : Int} {xs : List Itv} {lo hi : Int} (hs : sumsOkB ps ss = true) (ho : stOkB true xs lo hi = true) (hd : varB d = true) (ha : varB ia = true) (ht : 0 ≤ to) (ht2 : to < ps.length) (hp : 0 ≤ pc) (hp2 : pc < 10) :
    stepL ps ss ⟨10, d, ia, 0, 0, 0, 0, to⟩ pc true xs lo hi = optA (actI ps ss ⟨10, d, ia, 0, 0, 0, 0, to⟩ xs ⟨lo, hi⟩) (pc + 1) := by
  have hi10 := call_ok hd ha ht ht2
  have hb : stepB ps ss ⟨10, d, ia, 0, 0, 0, 0, to⟩ pc true xs lo hi = true := by simp only [stepB, ho, hs, hi10, decide_eq_true hp, decide_eq_true hp2, Bool.and_self]
  rw [stepL, if_pos hb, edgesI]
  simp
theorem call_fails {ps : List Prc} {d ia to : Int} {xs : List Itv} {lo hi v : Int} (hs : prgOkB ps = true) (ho : stOkB true xs lo hi = true) (hd : varB d = true) (ha : varB ia = true) (ht : 0 ≤ to) (ht2 : to < ps.length) (hv : (nthI xs ia).lo ≤ v ∧ v ≤ (nthI xs ia).hi) (hg : v < (prcI ps to).lo ∨ (prcI ps to).hi < v) :
    absFailsB ps ⟨10, d, ia, 0, 0, 0, 0, to⟩ true xs lo hi = true := by
  have hi10 := call_ok hd ha ht ht2
  have hn : inI (nthI xs ia) (prcI ps to) = false := by
    cases h : inI (nthI xs ia) (prcI ps to)
    · rfl
    · rw [inI_iff] at h
      omega
  simp only [absFailsB, ho, hs, hi10, failsB, Bool.true_and, Bool.and_true]
  simp [hn]
theorem call_none {ps : List Prc} {ss : List Sum} {d ia to : Int} {xs : List Itv} {c : Itv} (h : (sumI ss to).on = false) : actI ps ss ⟨10, d, ia, 0, 0, 0, 0, to⟩ xs c = none := by
  simp only [actI]
  simp [h]
theorem call_some {ps : List Prc} {ss : List Sum} {d ia to : Int} {xs : List Itv} {c : Itv} {v : Int} (h : (sumI ss to).on = true) (ho : stOkB true xs c.lo c.hi = true) (ha : varB ia = true) (hv : (nthI xs ia).lo ≤ v ∧ v ≤ (nthI xs ia).hi) (hg : (prcI ps to).lo ≤ v ∧ v ≤ (prcI ps to).hi) :
    actI ps ss ⟨10, d, ia, 0, 0, 0, 0, to⟩ xs c = some (setI (setI xs ia (cutI (nthI xs ia) (prcI ps to).lo (prcI ps to).hi)) d ⟨(sumI ss to).lo, (sumI ss to).hi⟩, c) := by
  have hk := itvB_iff.1 (nthI_okS ho ha)
  have hc : itvB (cutI (nthI xs ia) (prcI ps to).lo (prcI ps to).hi) = true := by
    rw [itvB_iff]
    simp only [cutI]
    omega
  have hn : narI xs ia (prcI ps to) = some (setI xs ia (cutI (nthI xs ia) (prcI ps to).lo (prcI ps to).hi)) := by
    rw [narI, meetI, if_pos hc]
    rfl
  simp only [actI]
  simp [hn, h]
theorem ptOk_set {xs : List Itv} {vs : List Int} {k : Int} {x : Itv} {z : Int} (h : PtOk xs vs) (h1 : x.lo ≤ z) (h2 : z ≤ x.hi) : PtOk (setI xs k x) (vs.set k.toNat z) := by
  intro j y v hy hv
  unfold setI at hy
  by_cases e : k.toNat = j
  · subst e
    by_cases hl : k.toNat < xs.length
    · rw [List.getElem?_set_self hl] at hy
      by_cases hl2 : k.toNat < vs.length
      · rw [List.getElem?_set_self hl2] at hv
        cases hy
        cases hv
        exact ⟨h1, h2⟩
      · rw [List.getElem?_eq_none (by simp; omega)] at hv
        cases hv
    · rw [List.getElem?_eq_none (by simp; omega)] at hy
      cases hy
  · rw [List.getElem?_set_ne e] at hy hv
    exact h j y v hy hv
theorem list_set_same {vs : List Int} {k : Nat} {v : Int} (h : vs[k]? = some v) : vs.set k v = vs := by
  apply List.ext_getElem?
  intro j
  by_cases e : k = j
  · subst e
    rw [List.getElem?_set_self (List.getElem?_eq_some_iff.1 h).1, h]
  · rw [List.getElem?_set_ne e]
theorem has_of_pt {xs : List Itv} {lo hi : Int} {vs cs : List Int} (ho : stOkB true xs lo hi = true) (hv : vs.length = 4) (hc : cs.length = 4) (hp : PtOk xs vs) (hcs : ∀ v, v ∈ cs → lo ≤ v ∧ v ≤ hi) : hasB true xs lo hi vs cs = true := by
  refine hasB_of ho hv hc ?_ hcs
  rw [List.all_eq_true]
  rintro ⟨x, v⟩ hm
  rw [List.mem_iff_getElem?] at hm
  obtain ⟨j, hj⟩ := hm
  rw [List.getElem?_zip_eq_some] at hj
  have := hp j x v hj.1 hj.2
  simp only [inP, inB, Bool.and_eq_true, decide_eq_true_eq]
  exact this
/-- The state behind a call has the numbers, with one of the sum in its variable. -/
theorem call_has {ps : List Prc} {ss : List Sum} {d ia to pc : Int} {xs : List Itv} {lo hi : Int} {vs cs : List Int} {v z : Int} (hs : sumsOkB ps ss = true) (ho : stOkB true xs lo hi = true) (hd : varB d = true) (ha : varB ia = true) (ht : 0 ≤ to) (ht2 : to < ps.length) (hp : 0 ≤ pc) (hp2 : pc < 10)
    (hvl : vs.length = 4) (hcl : cs.length = 4) (hpt : PtOk xs vs) (hcs : ∀ v, v ∈ cs → lo ≤ v ∧ v ≤ hi) (hva : vs[ia.toNat]? = some v) (hg : (prcI ps to).lo ≤ v ∧ v ≤ (prcI ps to).hi) (hon : (sumI ss to).on = true) (hz : (sumI ss to).lo ≤ z ∧ z ≤ (sumI ss to).hi) :
    ∃ e : Ed, stepL ps ss ⟨10, d, ia, 0, 0, 0, 0, to⟩ pc true xs lo hi = [e] ∧ e.to = pc + 1 ∧ hasB true e.xs e.c.lo e.c.hi (vs.set d.toNat z) cs = true := by
  obtain ⟨ja, hja, hja4, hxa⟩ := nthI_get (stOk_parts ho).1 ha
  have hjn : ia.toNat = ja := by omega
  have hin := hpt ja (nthI xs ia) v hxa (hjn ▸ hva)
  have hcs' := call_some (ps := ps) (ss := ss) (d := d) (to := to) (c := ⟨lo, hi⟩) hon ho ha hin hg
  have hst := call_step (pc := pc) hs ho hd ha ht ht2 hp hp2
  rw [hcs'] at hst
  simp only [optA] at hst
  refine ⟨_, hst, rfl, ?_⟩
  have hok := stepL_ok (ps := ps) (ss := ss) (i := ⟨10, d, ia, 0, 0, 0, 0, to⟩) (pc := pc) (on := true) (xs := xs) (lo := lo) (hi := hi) (e := _) (by rw [hst]; exact List.mem_singleton_self _)
  refine has_of_pt hok (by rw [List.length_set, hvl]) hcl (ptOk_set ?_ hz.1 hz.2) hcs
  have := ptOk_set (k := ia) (x := cutI (nthI xs ia) (prcI ps to).lo (prcI ps to).hi) (z := v) hpt (by simp only [cutI]; omega) (by simp only [cutI]; omega)
  rwa [list_set_same hva] at this
end Go.Proofs.YtpmfpgbpndobpaaGreat
