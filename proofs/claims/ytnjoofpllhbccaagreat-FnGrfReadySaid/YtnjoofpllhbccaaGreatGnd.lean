/- Lemmas and walks of this proof, some texts one behind the other. No condition. -/
import Derived.Test.YtnjoofpllhbccaaGreatGm
import Derived.Test.YtnjoofpllhbccaaGreatNk
set_option linter.unusedSimpArgs false
set_option linter.unusedVariables false
/- The parts of a graph: heads rise, each is the part of its head, together they are what can be come to. No condition. -/
namespace Go.Proofs.YtnjoofpllhbccaaGreat
set_option linter.unusedVariables false

variable {c : Int → List Int} {n : Nat} (hc : ∀ k x, x ∈ c k → 0 ≤ x ∧ x < n) (hn : 0 < n)
include hc hn
theorem parts_cons {k : Nat} (hk : k < (partsL c n).length) : ∃ t, (partsL c n).getD k [] = (headsL c n).getD k 0 :: t := by
  obtain ⟨_, a2, a3⟩ := heads_rch hc hn (heads_get hk)
  obtain ⟨h, t, hp, _, hf⟩ := part_head hc a2
  exact ⟨t, by rw [parts_get c n hk, hp, hf.1 a3]⟩
theorem heads_lt {i j : Nat} (hij : i < j) (hj : j < (partsL c n).length) : (headsL c n).getD i 0 < (headsL c n).getD j 0 := by
  have hs : Srt (headsL c n) := (reachL_spec hc (a := 0) ⟨by omega, by omega⟩).1.filter _
  have lj : j < (headsL c n).length := by rw [← parts_len]; exact hj
  have li : i < (headsL c n).length := by omega
  rw [List.getD_eq_getElem?_getD, List.getD_eq_getElem?_getD, List.getElem?_eq_getElem li, List.getElem?_eq_getElem lj]
  exact List.pairwise_iff_getElem.1 hs i j li lj hij
theorem parts_srt {l : List Int} (hl : l ∈ partsL c n) : Srt l := by
  obtain ⟨k, hk, rfl⟩ := List.getElem_of_mem hl
  have h := parts_get c n hk
  rw [List.getD_eq_getElem?_getD, List.getElem?_eq_getElem hk, Option.getD_some] at h
  rw [h]
  exact part_srt hc (heads_rch hc hn (heads_get hk)).2.1
theorem parts_flat_nodup : (partsL c n).flatten.Nodup := by
  rw [List.Nodup, List.pairwise_flatten]
  refine ⟨fun l hl => srt_nodup (parts_srt hc hn hl), ?_⟩
  rw [List.pairwise_iff_getElem]
  intro i j hi hj hij x h1 y h2 hxy
  subst hxy
  have e := parts_one hc hn hi hj (x := x) (by rw [List.getD_eq_getElem?_getD, List.getElem?_eq_getElem hi]; exact h1) (by rw [List.getD_eq_getElem?_getD, List.getElem?_eq_getElem hj]; exact h2)
  omega
theorem parts_flat_mem (x : Int) : x ∈ (partsL c n).flatten ↔ x ∈ reachL c n 0 := by
  have hr := reachL_spec hc (a := 0) ⟨by omega, by omega⟩
  rw [List.mem_flatten, hr.2]
  constructor
  · rintro ⟨l, hl, hx⟩
    obtain ⟨k, hk, rfl⟩ := List.getElem_of_mem hl
    have h := (parts_mem hc hn hk x).1 (by rw [List.getD_eq_getElem?_getD, List.getElem?_eq_getElem hk]; exact hx)
    exact (heads_rch hc hn (heads_get hk)).1.trans h.1
  · intro hx
    have hxb := rch_bd hc ⟨by omega, by omega⟩ hx
    obtain ⟨h, t, hp, hle, hf⟩ := part_head hc hxb
    have hh : h ∈ partL c n x := by rw [hp]; simp
    have hrh := (part_mem hc hxb h).1 hh
    have hhb := rch_bd hc hxb hrh.1
    have hpe := part_eq hc hxb hh
    refine ⟨partL c n h, ?_, by rw [hpe]; exact part_self hc hxb⟩
    unfold partsL partsP
    refine List.mem_map.2 ⟨h, List.mem_filter.2 ⟨(hr.2 h).2 (hx.trans hrh.1), ?_⟩, rfl⟩
    unfold firstB
    rw [hpe, hp]
    simp
theorem parts_sum : ((partsL c n).map List.length).sum = (reachL c n 0).length := by
  have hr := reachL_spec hc (a := 0) ⟨by omega, by omega⟩
  rw [← List.length_flatten]
  have h1 := nodup_sub _ _ (parts_flat_nodup hc hn) (fun x hx => (parts_flat_mem hc hn x).1 hx)
  have h2 := nodup_sub _ _ (srt_nodup hr.1) (fun x hx => (parts_flat_mem hc hn x).2 hx)
  omega
end Go.Proofs.YtnjoofpllhbccaaGreat

/- What the parts of a program's graph are. No condition. -/
namespace Go.Proofs.YtnjoofpllhbccaaGreat
open Go.RowKit
set_option linter.unusedVariables false
set_option linter.unusedSimpArgs false

theorem prt_eq {ps : List Prc} (hB : prgOkB ps = true) : grfParts ps = partsL (cOf' (csOf ps)) (csOf ps).length := by
  rw [grfParts, if_pos hB, ptOf, csOf_len]
theorem prt_pos {ps : List Prc} (hB : prgOkB ps = true) : 0 < (csOf ps).length := by
  rw [csOf_len]; have := prg_len hB; omega
theorem prt_0 {ps : List Prc} (hB : prgOkB ps = true) : thereB ps 0 = true := by
  have := prg_len hB
  simp [thereB, hB]; omega
theorem prt_get {ps : List Prc} {k : Nat} {l : List Int} (hk : (grfParts ps)[k]? = some l) : k < (grfParts ps).length ∧ (grfParts ps).getD k [] = l := by
  obtain ⟨h1, h2⟩ := List.getElem?_eq_some_iff.1 hk
  exact ⟨h1, by rw [List.getD_eq_getElem?_getD, hk]; rfl⟩
/-- A part begins with its head, and is the part of that. -/
theorem prt_at {ps : List Prc} (hB : prgOkB ps = true) {k : Nat} {l : List Int} (hk : (grfParts ps)[k]? = some l) : ∃ t, l = (headsL (cOf' (csOf ps)) (csOf ps).length).getD k 0 :: t ∧ grfPart ps ((headsL (cOf' (csOf ps)) (csOf ps).length).getD k 0) = l := by
  obtain ⟨h1, h2⟩ := prt_get hk
  rw [prt_eq hB] at h1 h2
  have hc := gok_of hB
  obtain ⟨t, ht⟩ := parts_cons hc (prt_pos hB) h1
  have hb := (heads_rch hc (prt_pos hB) (heads_get h1)).2.1
  refine ⟨t, by rw [← h2, ht], ?_⟩
  have hth : thereB ps ((headsL (cOf' (csOf ps)) (csOf ps).length).getD k 0) = true := by
    have h3 := hb.2
    have e3 := csOf_len ps
    simp only [thereB, hB, Bool.true_and, Bool.and_eq_true, decide_eq_true_eq]
    exact ⟨hb.1, by rw [e3] at h3; rw [← e3]; rw [e3]; exact h3⟩
  rw [grfPart, if_pos hth, ← h2, parts_get _ _ h1]
theorem prt_lt {ps : List Prc} (hB : prgOkB ps = true) {k : Nat} {l : List Int} (hk : (grfParts ps)[k + 1]? = some l) : (headsL (cOf' (csOf ps)) (csOf ps).length).getD k 0 < (headsL (cOf' (csOf ps)) (csOf ps).length).getD (k + 1) 0 := by
  obtain ⟨h1, h2⟩ := prt_get hk
  rw [prt_eq hB] at h1
  exact heads_lt (gok_of hB) (prt_pos hB) (by omega) h1
theorem prt_sum {ps : List Prc} (hB : prgOkB ps = true) : ((grfParts ps).map List.length).sum = (grfReach ps 0).length := by
  rw [prt_eq hB, grfReach, if_pos (prt_0 hB)]
  exact parts_sum (gok_of hB) (prt_pos hB)
theorem prt_of {ps : List Prc} (hB : prgOkB ps = true) {x : Int} (hx : x ∈ grfReach ps 0) : ¬ ofL (grfParts ps) x < 0 := by
  rw [grfReach, if_pos (prt_0 hB)] at hx
  obtain ⟨q, hq, hxq⟩ := parts_cover (gok_of hB) (prt_pos hB) hx
  obtain ⟨o, ho, rfl⟩ := List.mem_iff_getElem.1 hq
  rw [prt_eq hB, ofL_spec (gok_of hB) (prt_pos hB) ho (by rw [List.getD_eq_getElem?_getD, List.getElem?_eq_getElem ho]; exact hxq)]
  omega
theorem prt_no {ps : List Prc} (hB : prgOkB ps = false) : grfParts ps = [] := by rw [grfParts, hB]; rfl
/-- How many procedures the first k parts have. -/
def sumK (L : List (List Int)) (k : Nat) : Nat := ((L.take k).map List.length).sum
theorem sumK_0 (L : List (List Int)) : sumK L 0 = 0 := by simp [sumK]
theorem sumK_succ {L : List (List Int)} {k : Nat} {l : List Int} (h : L[k]? = some l) : sumK L (k + 1) = sumK L k + l.length := by
  simp [sumK, List.take_add_one, h]
theorem sumK_all (L : List (List Int)) {k : Nat} (h : L.length ≤ k) : sumK L k = (L.map List.length).sum := by
  rw [sumK, List.take_of_length_le h]
theorem sumK_le (L : List (List Int)) (hb : ∀ l, l ∈ L → l.length ≤ 4) : ∀ k, sumK L k ≤ 4 * k
  | 0 => by simp [sumK_0]
  | k + 1 => by
    have ih := sumK_le L hb k
    cases h : L[k]? with
    | none => 
      have := List.getElem?_eq_none_iff.1 h
      rw [sumK, List.take_of_length_le (by omega), ← sumK_all L this]
      omega
    | some l =>
      have := hb l (List.mem_of_getElem? h)
      rw [sumK_succ h]
      omega
end Go.Proofs.YtnjoofpllhbccaaGreat

/- What needs are: a part needs what never needs it. No condition. -/
namespace Go.Proofs.YtnjoofpllhbccaaGreat
open Go.RowKit
set_option linter.unusedVariables false
set_option linter.unusedSimpArgs false

/-- The head of a part. -/
def hd (ps : List Prc) (k : Int) : Int := (headsL (cOf' (csOf ps)) (csOf ps).length).getD k.toNat 0
/-- A part that stands beneath another one: it can be come to from that, and never comes to it. -/
def Low (ps : List Prc) (k o : Int) : Prop := (0 ≤ o ∧ o < (grfParts ps).length) ∧ Rch (cOf' (csOf ps)) (hd ps k) (hd ps o) ∧ ¬ Rch (cOf' (csOf ps)) (hd ps o) (hd ps k)
theorem low_irr {ps : List Prc} {k : Int} : ¬ Low ps k k := fun h => h.2.2 h.2.1
theorem low_need {ps : List Prc} {k o : Int} (h : o ∈ grfNeeds ps k) : Low ps k o := by
  by_cases hp : 0 ≤ k ∧ k < ((grfParts ps).length : Int)
  · obtain ⟨m, rfl⟩ := Int.eq_ofNat_of_zero_le hp.1
    have hm : m < (grfParts ps).length := by omega
    rw [grfNeeds_yes hm] at h
    have hB := (parts_ok (by omega : 0 < (grfParts ps).length)).1
    obtain ⟨q, rfl, hq, _, _⟩ := (needsI_mem _ _ _ _).1 h
    have hm' := hm
    rw [prt_eq hB] at hm' h
    obtain ⟨h1, h2, h3, h4⟩ := needs_rch (gok_of hB) (prt_pos hB) hm' h
    exact ⟨⟨by omega, by omega⟩, h3, h4⟩
  · rw [grfNeeds_no hp] at h
    cases h
theorem low_trans {ps : List Prc} {k o x : Int} (h : Low ps k o) (hx : x ∈ grfNeeds ps o) : Low ps k x := by
  have g := low_need hx
  exact ⟨g.1, h.2.1.trans g.2.1, fun e => g.2.2 (e.trans h.2.1)⟩
/-- What a procedure of a part calls is in that part, or in one that the part needs. -/
theorem need_has {ps : List Prc} {k : Nat} {l : List Int} (hk : (grfParts ps)[k]? = some l) {i y : Int} (hi : i ∈ l) (hy : y ∈ grfCalls ps i) (hne : ofL (grfParts ps) y ≠ k) : ofL (grfParts ps) y ∈ grfNeeds ps k := by
  obtain ⟨h1, h2⟩ := prt_get hk
  have hB := (parts_ok (by omega : 0 < (grfParts ps).length)).1
  have hy' : y ∈ cOf' (csOf ps) i := by
    unfold grfCalls at hy
    split at hy
    · exact hy
    · cases hy
  have h1' := h1
  have h2' := h2
  rw [prt_eq hB] at h1' h2'
  obtain ⟨o, ho, hyo⟩ := call_part (gok_of hB) (prt_pos hB) h1' (i := i) (by rw [h2']; exact hi) hy'
  have e : ofL (grfParts ps) y = o := by
    rw [prt_eq hB]
    exact ofL_spec (gok_of hB) (prt_pos hB) ho hyo
  rw [e] at hne ⊢
  rw [grfNeeds_yes h1]
  refine (needsI_mem _ _ _ _).2 ⟨o, rfl, by rw [prt_eq hB]; exact ho, fun e => hne (by rw [e]), ?_⟩
  simp only [needB, List.any_eq_true, decide_eq_true_eq]
  exact ⟨i, by rw [h2]; exact hi, y, hy', by rw [prt_eq hB]; exact hyo⟩
theorem grfNeeds_srt (ps : List Prc) (k : Int) : Srt (grfNeeds ps k) := by
  unfold grfNeeds
  split
  · exact range_srt _ _
  · exact List.Pairwise.nil
theorem grfNeeds_bd {ps : List Prc} {k : Int} : ∀ y, y ∈ grfNeeds ps k → 0 ≤ y ∧ y < (grfParts ps).length := fun y hy => (low_need hy).1
/-- Some of the parts beneath one, each once. -/
structure All (ps : List Prc) (k : Int) (zs : List Int) : Prop where
  nd : zs.Nodup
  low : ∀ y, y ∈ zs → Low ps k y
theorem All.len {ps : List Prc} {k : Int} {zs : List Int} (h : All ps k zs) : zs.length ≤ 4 := by
  have h1 := srt_len (grfParts ps).length zs h.nd (fun x hx => (h.low x hx).1)
  have := (grfParts_bd ps).1
  omega
theorem All.start (ps : List Prc) (k : Int) : All ps k (grfNeeds ps k) := ⟨srt_nodup (grfNeeds_srt ps k), fun y hy => low_need hy⟩
theorem All.snoc {ps : List Prc} {k o x : Int} {zs : List Int} (h : All ps k zs) (ho : o ∈ zs) (hx : x ∈ grfNeeds ps o) (hn : ¬ x ∈ zs) : All ps k (zs ++ [x]) := by
  refine ⟨?_, fun y hy => ?_⟩
  · rw [List.nodup_append]
    refine ⟨h.nd, by simp, fun a ha b hb => ?_⟩
    rw [List.mem_singleton.1 hb]
    rintro rfl
    exact hn ha
  · rcases List.mem_append.1 hy with hy | hy
    · exact h.low y hy
    · rw [List.mem_singleton.1 hy]
      exact low_trans (h.low o ho) hx
theorem All.not {ps : List Prc} {k : Int} {zs : List Int} (h : All ps k zs) : ¬ k ∈ zs := fun hk => low_irr (h.low k hk)
end Go.Proofs.YtnjoofpllhbccaaGreat
